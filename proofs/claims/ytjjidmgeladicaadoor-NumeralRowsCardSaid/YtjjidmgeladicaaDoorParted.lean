/- simileref02.parted: runes at each one that parts them. -/
import Derived.Test.YtjjidmgeladicaaDoorRuneRows
namespace Go.Proofs.YtjjidmgeladicaaDoor
open Go.RowKit

theorem own_atV {B : Nat} {w : World} {e : TypeId} {g n cap : Nat} {xs : List Value} (h : w.ownsRow B e 1 (.slice (some ⟨g, 0, none⟩) n cap) n xs) (j : Nat) (u : Value) (hj : xs[j]? = some u) : w.cell? ⟨g, j, none⟩ = some u ∧ w.frozen? ⟨g, j, none⟩ = false := by
  rcases h.2 with ⟨h1, _⟩ | ⟨g', cap', cur, h1, hb, hg, hcap, hm, hs, ht⟩
  · cases h1
  · simp only [Value.slice.injEq, Option.some.injEq, Addr.mk.injEq, and_true, true_and] at h1
    obtain ⟨rfl, rfl⟩ := h1
    refine ⟨?_, frozen_of_row w g j cur e hg⟩
    rw [cell_of_row w g _ cur e (0, 0) hg]
    rw [← ht, List.getElem?_take] at hj
    split at hj
    · rw [← hj]; simp
    · cases hj

/-- the state of simileref02.parted: the rows that are whole, and the one that runs, which is the last of the row of rows -/
def PartedSt (B : Nat) (w : World) (vo : Value) (rows : List (List Nat)) (cur : List Nat) : Prop :=
  ∃ rs vl m, w.ownsRow B 88 1 vo (rows.length + 1) (rs ++ [vl]) ∧ FinRows B m w rs rows ∧ B ≤ m ∧ m ≤ w.heap.size ∧ w.ownsRow m 21 1 vl cur.length (numsC .i32 cur)

theorem grown_none {w w' : World} (h : Below w.heap.size w w') : w.grownBy w' none := ⟨h.os, h.tape, h.output, h.size, fun k hk _ => h.block k hk⟩

theorem PartedSt.later {B : Nat} {w w' : World} {vo : Value} {rows : List (List Nat)} {cur : List Nat} (h : PartedSt B w vo rows cur) (hb : Below w.heap.size w w') : PartedSt B w' vo rows cur := by
  obtain ⟨rs, vl, m, h1, h2, h3, h4, h5⟩ := h
  exact ⟨rs, vl, m, own_keep h1 hb, h2.grown (grown_none hb) (fun g e => by cases e), h3, Nat.le_trans h4 hb.size, own_keep h5 hb⟩

theorem PartedSt.sep {B : Nat} {w w6 : World} {vo vl v' : Value} {rows : List (List Nat)} {cur : List Nat} {rs : List Value} {m : Nat}
    (h1 : w.ownsRow B 88 1 vo (rows.length + 1) (rs ++ [vl])) (h2 : FinRows B m w rs rows) (h3 : B ≤ m) (h4 : m ≤ w.heap.size) (h5 : w.ownsRow m 21 1 vl cur.length (numsC .i32 cur))
    (ho : w6.ownsRow B 88 1 v' (rows.length + 1 + 1) (rs ++ [vl] ++ [.slice none 0 0])) (hg : (w.alloc (.cells #[.slice none 0 0] 88)).grownBy w6 vo.ownBlock) : PartedSt B w6 v' (rows ++ [cur]) [] := by
  have hal : w.grownBy (w.alloc (.cells #[.slice none 0 0] 88)) none := World.grownBy_alloc w _ none
  have hty : ∀ g, vo.ownBlock = some g → w.heap.size ≤ g ∨ ∃ c T f, (w.alloc (.cells #[.slice none 0 0] 88)).heap[g]? = some (.cells c T f) ∧ T ≠ 21 := fun g e => by
    obtain ⟨c, hc⟩ := own_ty (h1.alloc _) g e
    exact .inr ⟨c, _, _, hc, by decide⟩
  have hsz : w.heap.size ≤ w6.heap.size := by have := hg.size; simp at this; omega
  have hf : FinR B w.heap.size w vl cur := (FinR.ofOwn h5).wide h3 (Nat.le_refl _)
  have hrows := ((h2.wide h4).snoc hf).grown hal (fun g e => by cases e)
  exact ⟨rs ++ [vl], .slice none 0 0, w6.heap.size, by simpa using ho, (hrows.grown hg hty).wide hsz, by omega, Nat.le_refl _, World.ownsRow_nil _ _ _ _⟩

theorem PartedSt.rune {B : Nat} {w w6 : World} {g c : Nat} {vl v' : Value} {rows : List (List Nat)} {cur : List Nat} {r : Nat} {rs : List Value} {m : Nat}
    (h1 : w.ownsRow B 88 1 (.slice (some ⟨g, 0, none⟩) (rows.length + 1) c) (rows.length + 1) (rs ++ [vl])) (h2 : FinRows B m w rs rows) (h3 : B ≤ m) (h4 : m ≤ w.heap.size) (h5 : w.ownsRow m 21 1 vl cur.length (numsC .i32 cur))
    (ho : w6.ownsRow m 21 1 v' (cur.length + 1) (numsC .i32 cur ++ [.int .i32 (r : Nat)])) (hg : (w.alloc (.cells #[.int .i32 (r : Nat)] 21)).grownBy w6 vl.ownBlock) :
    (w6.cell? ⟨g, rows.length, none⟩ = some vl ∧ w6.frozen? ⟨g, rows.length, none⟩ = false) ∧ PartedSt B (w6.setCell ⟨g, rows.length, none⟩ v') (.slice (some ⟨g, 0, none⟩) (rows.length + 1) c) rows (cur ++ [r]) := by
  have hal : w.grownBy (w.alloc (.cells #[.int .i32 (r : Nat)] 21)) none := World.grownBy_alloc w _ none
  have hlt := h5.lt
  have hrl := h2.1
  have k1 : w6.ownsRow B 88 1 (.slice (some ⟨g, 0, none⟩) (rows.length + 1) c) (rows.length + 1) (rs ++ [vl]) := by
    refine (h1.alloc _).kept hg (.inr ?_)
    intro e
    obtain ⟨c1, e1⟩ := own_ty h1 g rfl
    obtain ⟨c2, e2⟩ := own_ty h5 g e.symm
    rw [e1] at e2
    simp at e2
  have hfin := (h2.grown hal (fun g e => by cases e)).grown hg fun g e => .inl (hlt g e).1
  have hs6 : m ≤ w6.heap.size := by have := hg.size; simp at this; omega
  have hat := own_atV k1 rows.length vl (by rw [← hrl]; simp)
  have hst := k1.stored rows.length v'
  have hset : (rs ++ [vl]).set rows.length v' = rs ++ [v'] := by rw [← hrl]; simp
  rw [hset] at hst
  have hgt : ∀ g', some g = some g' → m ≤ g' ∨ ∃ c T f, w6.heap[g']? = some (.cells c T f) ∧ T ≠ 21 := fun g' e => by
    cases e
    obtain ⟨c1, e1⟩ := own_ty k1 g rfl
    exact .inr ⟨c1, _, _, e1, by decide⟩
  refine ⟨hat, rs, v', m, hst.1, hfin.grown hst.2 hgt, h3, ?_, ?_⟩
  · have := hst.2.size; omega
  · have hoo : w6.ownsRow m 21 1 v' (cur ++ [r]).length (numsC .i32 (cur ++ [r])) := by simpa [numsC] using ho
    refine hoo.kept hst.2 ?_
    by_cases hv : v'.ownBlock = none
    · exact .inl hv
    · right
      intro e
      obtain ⟨c1, e1⟩ := own_ty k1 g rfl
      obtain ⟨c2, e2⟩ := own_ty hoo g e
      rw [e1] at e2
      simp at e2

theorem partSt_snoc (p : Nat → Bool) (L : List Nat) (r : Nat) : partSt p [] (L ++ [r]) = pStep p (partSt p [] L) r := by simp [partSt]

theorem partSt_le (p : Nat → Bool) (L : List Nat) : (partSt p [] L).1.length + (partSt p [] L).2.length ≤ L.length := by
  have h : ∀ (L : List Nat) (st : List (List Nat) × List Nat), (L.foldl (pStep p) st).1.length + (L.foldl (pStep p) st).2.length ≤ st.1.length + st.2.length + L.length := by
    intro L
    induction L with
    | nil => intro st; simp
    | cons r L ih =>
      intro st
      rw [List.foldl_cons]
      have h1 := ih (pStep p st r)
      have h2 : (pStep p st r).1.length + (pStep p st r).2.length ≤ st.1.length + st.2.length + 1 := by
        unfold pStep
        split
        · simp
        · simp; omega
      simp only [List.length_cons]
      omega
  have := h L ([], [])
  simpa [partSt] using this

set_option maxHeartbeats 6400000 in
theorem parted_any (lo h1 : Nat) (v : Value) (L : List Nat) (parts : ByteArray) (w : World) (h : Nums .i32 lo h1 w v L) (hh1 : h1 ≤ w.heap.size) (hl : L.length ≤ 1000000000) (hps : parts.size ≤ 1000) :
    Calls Tryd.prog 45 #[v, .string parts] w fun e w' => Below w.heap.size w w' ∧ ∃ r, e = .returned r ∧ RuneRows w.heap.size w'.heap.size w' r (partedL (fun r => (runesOf parts).contains r) L) := by
  obtain ⟨p, hp⟩ : ∃ p : Nat → Bool, (fun r => (runesOf parts).contains r) = p := ⟨_, rfl⟩
  rw [hp]
  obtain ⟨ad, cap, hsh, hc, hcell⟩ := h.open
  subst hsh
  have HH := hid h
  have HP := hid hp
  clear h hcell hp
  go_enter Tryd.func45, Tryd.ntmps45
  go_wp2
  have hb1 := (Below.refl w.heap.size w).alloc (Nat.le_refl _) (.cells #[.slice none 0 0] 88)
  have ho1 : (w.alloc (.cells #[.slice none 0 0] 88)).ownsRow w.heap.size 88 1 (.slice (some ⟨w.heap.size, 0, none⟩) 1 1) 1 [.slice none 0 0] := ⟨rfl, .inr ⟨w.heap.size, 1, #[.slice none 0 0], rfl, Nat.le_refl _, heap_alloc_new w _, Nat.le_refl _, by decide, rfl, rfl⟩⟩
  have hst0 : PartedSt w.heap.size (w.alloc (.cells #[.slice none 0 0] 88)) (.slice (some ⟨w.heap.size, 0, none⟩) 1 1) [] [] :=
    ⟨[], .slice none 0 0, (w.alloc (.cells #[.slice none 0 0] 88)).heap.size, ho1, FinRows.nil, hb1.size, Nat.le_refl _, World.ownsRow_nil _ _ _ _⟩
  obtain ⟨w1, hw1⟩ : ∃ w1, w.alloc (.cells #[.slice none 0 0] 88) = w1 := ⟨_, rfl⟩
  rw [hw1] at hb1 hst0 ⊢
  clear hw1 ho1
  have HB1 := hid hb1
  clear hb1
  go_loopw [5, 14] (fun vo iv wr => ∃ k : Nat, iv = .int .i64 k ∧ k ≤ L.length ∧ Below w.heap.size w wr ∧ PartedSt w.heap.size wr vo (partSt p [] (L.take k)).1 (partSt p [] (L.take k)).2) (fun _ iv _ => L.length - (intOf iv).toNat)
  case atStart => exact ⟨0, rfl, Nat.zero_le _, HB1.out, hst0⟩
  case round =>
    obtain ⟨wo, hwo⟩ : ∃ wo, wo = wr := ⟨_, rfl⟩
    subst hwo
    obtain ⟨k, rfl, hk, hbel, hps1⟩ := hrel
    have hlen1 : (partSt p [] (L.take k)).1.length + (partSt p [] (L.take k)).2.length ≤ k := by
      have := partSt_le p (L.take k)
      rw [List.length_take] at this
      omega
    by_cases hkl : k < L.length
    · obtain ⟨r, hr⟩ : ∃ r, L[k]? = some r := ⟨_, List.getElem?_eq_getElem hkl⟩
      have hs1 : partSt p [] (L.take (k + 1)) = pStep p (partSt p [] (L.take k)) r := by
        rw [List.take_add_one, hr]
        exact partSt_snoc p _ r
      obtain ⟨⟨rows, cur⟩, hst⟩ : ∃ st, partSt p [] (L.take k) = st := ⟨_, rfl⟩
      rw [hst] at hps1 hlen1 hs1
      dsimp only at hps1 hlen1 hs1
      obtain ⟨b, off, hsh, hbl, hbh, hc9⟩ : ∃ b off, ad = some ⟨b, off, none⟩ ∧ lo ≤ b ∧ b < h1 ∧ w.cell? ⟨b, off + k, none⟩ = some (.int .i32 (r : Nat)) := by
        obtain ⟨ad', c', e', _, hcell⟩ := HH.out.open
        obtain ⟨b, off, hb1, hb2, hb3, hb4⟩ := hcell k hkl
        have hrr : L.getD k 0 = r := by rw [List.getD_eq_getElem?_getD, hr]; rfl
        rw [hrr] at hb4
        simp only [Value.slice.injEq, true_and] at e'
        exact ⟨b, off, by rw [e'.1, hb1], hb2, hb3, hb4⟩
      subst hsh
      have hcr : wo.cell? ⟨b, off + k, none⟩ = some (.int .i32 (r : Nat)) := (hbel.cell (p := ⟨b, off + k, none⟩) (by show b < w.heap.size; omega)).trans hc9
      have f1 : (k : Int) < (L.length : Int) := by omega
      have HS1 := hid hs1
      have HBEL := hid hbel
      have HSZ := hid hbel.size
      have HST := hid hps1
      clear hs1 hst hr hc9 hbel hps1 hst0
      go_wp2
      have hk0 := World.iter_heap wo parts 0
      have hbi : Below wo.heap.size wo (wo.iter parts 0) := (Below.refl _ _).alloc (Nat.le_refl _) _
      obtain ⟨kb, hkb⟩ : ∃ kb, wo.heap.size = kb := ⟨_, rfl⟩
      obtain ⟨wi, hwi⟩ : ∃ wi, wo.iter parts 0 = wi := ⟨_, rfl⟩
      rw [hwi] at hk0 hbi ⊢
      have HKB := hid hkb
      rw [hkb] at hk0 hbi ⊢
      clear hwi hkb
      go_loopg [8] parts.size (fun gk isv wr => ∃ (pos : Nat) (pre : List Nat), gk = parts.size - pos ∧ wr.heap[kb]? = some (.stringIter parts pos) ∧ isv = .bool (pre.contains r) ∧ Below kb wo wr ∧ runesOf parts = pre ++ runesAt parts pos)
      case atStart => exact ⟨0, [], by omega, hk0, rfl, hbi, rfl⟩
      case round =>
        obtain ⟨pos, pre, hgk, hki, rfl, hbx, hru⟩ := hrel
        have HRU := hid hru
        have HGK := hid hgk
        clear hru hgk hk0 hbi
        by_cases hpp : pos < parts.size
        · have hnx := fun ty => Lib.run_next_any_at (P := Tryd.prog) wr kb parts pos ty hki hpp
          have hw := decode_width parts pos
          obtain ⟨rn, hrn⟩ : ∃ rn, (Utf8.decode parts pos).1 = rn := ⟨_, rfl⟩
          obtain ⟨wd, hwd⟩ : ∃ wd, (Utf8.decode parts pos).2 = wd := ⟨_, rfl⟩
          have hst := runesAt_step parts pos hpp
          rw [hrn, hwd] at hst hnx
          rw [hwd] at hw
          have hk2 := Lib.iterAt_heap wr kb parts pos (pos + wd) hki
          have hbel2 := Lib.below_iterAt hbx (Nat.le_refl kb) parts (pos + wd)
          have hru2 : runesOf parts = (pre ++ [rn]) ++ runesAt parts (pos + wd) := by rw [HRU.out, hst]; simp
          have hct : (pre ++ [rn]).contains r = (pre.contains r || r == rn) := by rw [Bool.eq_iff_iff]; simp
          have HCT := hid hct
          have HRU2 := hid hru2
          have HK2 := hid hk2
          have HBEL2 := hid hbel2
          obtain ⟨cb, hcb⟩ : ∃ cb, pre.contains r = cb := ⟨_, rfl⟩
          rw [hcb] at HCT ⊢
          clear hst hrn hwd hk2 hbel2 hru2 hct hcb hbx hki
          cases cb
          · by_cases hrr : r = rn
            · subst hrr
              go_wp2
              go_roundg (parts.size - (pos + wd))
              case measure => have := HGK.out; omega
              case rel => exact ⟨pos + wd, pre ++ [r], rfl, HK2.out, by rw [HCT.out]; simp, HBEL2.out, HRU2.out⟩
            · have nrr : ((r : Int) == (rn : Int)) = false := by simp; omega
              have HNE := hid hrr
              clear hrr
              go_wp2
              go_roundg (parts.size - (pos + wd))
              case measure => have := HGK.out; omega
              case rel => exact ⟨pos + wd, pre ++ [rn], rfl, HK2.out, by rw [HCT.out]; have := HNE.out; simp [this], HBEL2.out, HRU2.out⟩
          · go_wp2
            go_roundg (parts.size - (pos + wd))
            case measure => have := HGK.out; omega
            case rel => exact ⟨pos + wd, pre ++ [rn], rfl, HK2.out, by rw [HCT.out]; simp, HBEL2.out, HRU2.out⟩
        · have hnx := fun ty => Lib.run_next_end_at (P := Tryd.prog) wr kb parts pos ty hki hpp
          have he := runesAt_end parts pos hpp
          have hcn : pre.contains r = p r := by
            have e2 := HRU.out
            rw [he, List.append_nil] at e2
            rw [← HP.out, ← e2]
          rw [hcn]
          have hbo : Below wo.heap.size wo wr := by rw [HKB.out]; exact hbx
          have hbw : Below w.heap.size w wr := HBEL.out.trans (hbo.mono HBEL.out.size)
          obtain ⟨rs, vl, m, o1, o2, o3, o4, o5⟩ := HST.out.later hbo
          obtain ⟨go, co, rfl, hgl, hgh⟩ := own_nil_iff o1 (Nat.succ_pos _)
          obtain ⟨adl, cl, rfl⟩ := own_shape o5
          obtain ⟨m0, m1⟩ := own_atV o1 rows.length (.slice adl cur.length cl) (by rw [← o2.1]; simp)
          have HBW := hid hbw
          have O2 := hid o2
          have O5 := hid o5
          have HSZ2 := hid hbw.size
          clear he hcn hbo hbw hbx hki HRU
          obtain ⟨pr, hpr⟩ : ∃ pr, p r = pr := ⟨_, rfl⟩
          rw [hpr]
          cases pr
          · have hs2 : pStep p (rows, cur) r = (rows, cur ++ [r]) := if_neg (by rw [hpr]; decide)
            have HS2 := hid hs2
            have O1 := hid o1
            have f2 : ((rows.length : Nat) : Int) < ((rows.length : Nat) : Int) + 1 := by omega
            clear hs2 hpr o1
            go_wp2_with (at_builtin; refine wpl_append1 (o := ⟨some 45, _, _, _, _, _⟩) (w0 := wr) elemRunes rfl _ _ rfl m cur.length 1 1 _ (numsC .i32 cur) #[.int .i32 (r : Nat)] o5 rfl rfl rfl (by simp [Value.oneCell']) (by omega) (by decide) (by unfold maxLen; omega) (Below.refl _ _) o4 ?_; intro g6 c6 w6 ho6 hb6 hg6; obtain ⟨⟨k0, k1⟩, hfin⟩ := PartedSt.rune O1.out O2.out o3 o4 O5.out (by simpa using ho6) hg6; have HFIN := hid hfin; have HB6 := hid ((HBW.out.trans (hb6.mono o3)).setCell (p := ⟨go, rows.length, none⟩) hgl (.slice (some ⟨g6, 0, none⟩) (cur.length + 1) c6)); clear ho6 hb6 hg6 hfin)
            refine ⟨⟨k + 1, by go_num, by omega, HB6.out, ?_⟩, by simp [intOf]; omega⟩
            rw [HS1.out, HS2.out]
            exact HFIN.out
          · have hs2 : pStep p (rows, cur) r = (rows ++ [cur], []) := if_pos hpr
            have HS2 := hid hs2
            clear hs2 hpr m0 m1
            go_wp2_with (at_builtin; refine wpl_append1 (o := ⟨some 32, _, _, _, _, _⟩) elemRuneRow rfl _ _ rfl w.heap.size (rows.length + 1) 1 1 _ _ #[.slice none 0 0] o1 rfl rfl rfl (by simp [Value.oneCell']) (by omega) (by decide) (by unfold maxLen; omega) HBW.out HSZ2.out ?_; intro g6 c6 w6 ho6 hb6 hg6)
            have HFIN := hid (PartedSt.sep o1 O2.out o3 o4 O5.out (by simpa using ho6) hg6)
            have HB6 := hid hb6
            clear ho6 hb6 hg6
            refine ⟨⟨k + 1, by go_num, by omega, HB6.out, ?_⟩, by simp [intOf]; omega⟩
            rw [HS1.out, HS2.out]
            exact HFIN.out
    · obtain rfl : k = L.length := by omega
      have f1 : ¬ ((L.length : Int) < (L.length : Int)) := by omega
      rw [List.take_length] at hps1
      obtain ⟨rs, vl, m, o1, o2, o3, o4, o5⟩ := hps1
      go_wp2
      go_ret
      refine ⟨hbel, _, rfl, ?_⟩
      have hf := (o2.wide o4).snoc ((FinR.ofOwn o5).wide o3 (Nat.le_refl _))
      have hpl : (partedL p L).length = (partSt p [] L).1.length + 1 := by simp [partedL]
      rw [← hpl] at o1
      exact FinRows.rows o1 hf
end Go.Proofs.YtjjidmgeladicaaDoor
