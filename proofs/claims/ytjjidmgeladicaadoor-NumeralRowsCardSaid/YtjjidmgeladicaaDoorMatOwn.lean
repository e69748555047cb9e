/- Rows of fractions that a call has made, each in blocks of its own. Plain; no condition. -/
import Derived.Test.YtjjidmgeladicaaDoorRow02
namespace Go.Proofs.YtjjidmgeladicaaDoor
open Go.RowKit

theorem elemFracRow : Elem Tryd.prog 52 35 (.slice none 0 0) 1 24 :=
  ⟨Tryd.underlying52, by kernel_rfl, rfl, by decide⟩

/-- a row of fractions that lies, with its numbers, in blocks from lo on, below hi -/
def RowIn (lo hi : Nat) (w : World) (v : Value) (out : List Fr) : Prop :=
  ∃ cs : List (List Value), w.ownsRow lo 42 4 v out.length cs.flatten ∧ (∀ b, v.ownBlock = some b → b < hi) ∧ cs.length = out.length ∧ (∀ c, c ∈ cs → c.length = 4) ∧
    ∀ (i : Nat) (x : Fr) (c : List Value), out[i]? = some x → cs[i]? = some c → FracCells lo hi w x c

theorem RowIn.ofOut {B : Nat} {w : World} {v : Value} {out : List Fr} (h : OutRow B w v out) : RowIn B w.heap.size w v out := by
  obtain ⟨cs, h1, h2, h3, h4⟩ := h
  exact ⟨cs, h1, fun b hb => (h1.lt b hb).2, h2, h3, h4⟩

theorem RowIn.wide {lo hi lo' hi' : Nat} {w : World} {v : Value} {out : List Fr} (h : RowIn lo hi w v out) (h1 : lo' ≤ lo) (h2 : hi ≤ hi') : RowIn lo' hi' w v out := by
  obtain ⟨cs, g1, g2, g3, g4, g5⟩ := h
  exact ⟨cs, own_base g1 h1, fun b hb => Nat.lt_of_lt_of_le (g2 b hb) h2, g3, g4, fun i x c hx hc => (g5 i x c hx hc).wide h1 h2⟩

theorem RowIn.shape {lo hi : Nat} {w : World} {v : Value} {out : List Fr} (h : RowIn lo hi w v out) : ∃ ad cap, v = .slice ad out.length cap := by
  obtain ⟨cs, h1, _⟩ := h
  exact own_shape h1

theorem RowIn.grown {lo hi : Nat} {w w' : World} {v : Value} {out : List Fr} {row : Option Nat} (h : RowIn lo hi w v out) (h0 : 0 < lo) (hg : w.grownBy w' row)
    (hr : ∀ g, row = some g → hi ≤ g ∨ ∃ c T f, w.heap[g]? = some (.cells c T f) ∧ T ≠ 96 ∧ T ≠ 42) : RowIn lo hi w' v out := by
  obtain ⟨cs, g1, g2, g3, g4, g5⟩ := h
  refine ⟨cs, g1.kept hg ?_, g2, g3, g4, fun i x c hx hc => ?_⟩
  · by_cases hv : v.ownBlock = none
    · exact .inl hv
    · right
      intro e
      obtain ⟨g, hgg⟩ := Option.ne_none_iff_exists'.1 hv
      obtain ⟨c1, e1⟩ := own_ty g1 g hgg
      rcases hr g (e ▸ hgg) with h3 | ⟨c, T, f, e2, _, e3⟩
      · have := g2 g hgg; omega
      · rw [e1] at e2
        simp at e2
        exact e3 e2.2.1.symm
  · obtain ⟨q, p, rfl, hq, hp⟩ := g5 i x c hx hc
    have hl : ∀ {u : Value} {xs : List Nat}, Limbs lo hi w u xs → Limbs lo hi w' u xs := fun {u xs} h => by
      obtain ⟨ad, cap, hv, hc, hn, hx, hne⟩ := h
      refine ⟨ad, cap, hv, hc, hn, hx, fun hp => ?_⟩
      obtain ⟨b, off, ha, hlb, hhb, hcell, hu⟩ := hne hp
      obtain ⟨cur, hb⟩ := hu h0
      have hk : w'.heap[b]? = w.heap[b]? := by
        refine hg.block b (Array.getElem?_eq_some_iff.1 hb).1 fun e => ?_
        rcases hr b e.symm with h3 | ⟨c, T, f, e2, e3, _⟩
        · omega
        · rw [hb] at e2
          simp at e2
          exact e3 e2.2.1.symm
      exact ⟨b, off, ha, hlb, hhb, fun i hi => (World.cell?_of_block hk).trans (hcell i hi), fun _ => ⟨cur, hk.trans hb⟩⟩
    exact ⟨q, p, rfl, hl hq, hl hp⟩

theorem RowIn.later {lo hi : Nat} {w w' : World} {v : Value} {out : List Fr} (h : RowIn lo hi w v out) (h0 : 0 < lo) (hb : Below w.heap.size w w') : RowIn lo hi w' v out :=
  h.grown (row := none) h0 ⟨hb.os, hb.tape, hb.output, hb.size, fun k hk _ => hb.block k hk⟩ (fun g e => by cases e)

theorem RowIn.fracs {lo hi : Nat} {w : World} {v : Value} {out : List Fr} (h : RowIn lo hi w v out) (hh : hi ≤ w.heap.size) : Fracs lo w.heap.size w v out := by
  obtain ⟨cs, g1, g2, g3, g4, g5⟩ := h
  exact RowOf.ofOwn (by decide) g1 g3 g4 (fun i x c hx hc => (g5 i x c hx hc).wide (Nat.le_refl _) hh)

/-- rows of fractions in a row, with the bounds f between them -/
def MatParts (B : Nat) (w : World) (v : Value) (m : List (List Fr)) (rs : List Value) (f : Nat → Nat) : Prop :=
  w.ownsRow B 35 1 v m.length rs ∧ rs.length = m.length ∧ B ≤ f 0 ∧ (∀ i, f i ≤ f (i + 1)) ∧ f m.length ≤ w.heap.size ∧
    ∀ (i : Nat) (x : List Fr) (r : Value), m[i]? = some x → rs[i]? = some r → RowIn (f i) (f (i + 1)) w r x

theorem MatParts.mono {B : Nat} {w : World} {v : Value} {m : List (List Fr)} {rs : List Value} {f : Nat → Nat} (h : MatParts B w v m rs f) : ∀ i j, i ≤ j → f i ≤ f j := by
  intro i j hij
  obtain ⟨d, rfl⟩ := Nat.exists_eq_add_of_le hij
  induction d with
  | zero => exact Nat.le_refl _
  | succ d ih => exact Nat.le_trans (ih (by omega)) (h.2.2.2.1 _)

theorem MatParts.nil {B : Nat} {w : World} (hB : B ≤ w.heap.size) : MatParts B w (.slice none 0 0) [] [] (fun _ => B) :=
  ⟨World.ownsRow_nil _ _ _ _, rfl, Nat.le_refl _, fun _ => Nat.le_refl _, hB, by simp⟩

theorem MatParts.grown {B : Nat} {w w' : World} {v : Value} {m : List (List Fr)} {rs : List Value} {f : Nat → Nat} {row : Option Nat} (h : MatParts B w v m rs f) (h0 : 0 < B) (hg : w.grownBy w' row)
    (hr : ∀ g, row = some g → ∃ c T f, w.heap[g]? = some (.cells c T f) ∧ T ≠ 96 ∧ T ≠ 42 ∧ T ≠ 35) : MatParts B w' v m rs f := by
  have hm := h.mono
  obtain ⟨h1, h2, h3, h4, h5, h6⟩ := h
  refine ⟨h1.kept hg ?_, h2, h3, h4, Nat.le_trans h5 hg.size, fun i x r hx hrr => (h6 i x r hx hrr).grown (by have := hm 0 i (Nat.zero_le _); omega) hg fun g e => ?_⟩
  · by_cases hv : v.ownBlock = none
    · exact .inl hv
    · right
      intro e
      obtain ⟨g, hgg⟩ := Option.ne_none_iff_exists'.1 hv
      obtain ⟨c1, e1⟩ := own_ty h1 g hgg
      obtain ⟨c, T, f, e2, _, _, e3⟩ := hr g (e ▸ hgg)
      rw [e1] at e2
      simp at e2
      exact e3 e2.2.1.symm
  · obtain ⟨c, T, f, e2, e3, e4, _⟩ := hr g e
    exact .inr ⟨c, T, f, e2, e3, e4⟩

theorem MatParts.later {B : Nat} {w w' : World} {v : Value} {m : List (List Fr)} {rs : List Value} {f : Nat → Nat} (h : MatParts B w v m rs f) (h0 : 0 < B) (hb : Below w.heap.size w w') : MatParts B w' v m rs f :=
  h.grown (row := none) h0 ⟨hb.os, hb.tape, hb.output, hb.size, fun k hk _ => hb.block k hk⟩ (fun g e => by cases e)

theorem MatParts.one {B : Nat} {w : World} {v : Value} {m : List (List Fr)} {rs : List Value} {f : Nat → Nat} (h : MatParts B w v m rs f) : ∀ u, u ∈ rs → u.oneCell' = true := by
  intro u hu
  obtain ⟨i, hi, rfl⟩ := List.mem_iff_getElem.1 hu
  have h1 := h.2.1
  obtain ⟨ad, cap, e⟩ := (h.2.2.2.2.2 i _ _ (List.getElem?_eq_getElem (by omega)) (List.getElem?_eq_getElem hi)).shape
  rw [e]; rfl

/-- one row more -/
theorem MatParts.snoc {B : Nat} {w w2 w6 : World} {vo v' r : Value} {m : List (List Fr)} {x : List Fr} {rs : List Value} {f : Nat → Nat} (h : MatParts B w vo m rs f) (h0 : 0 < B) (hb : Below w.heap.size w w2)
    (hr : OutRow w.heap.size w2 r x) (ho : w6.ownsRow B 35 1 v' (m.length + 1) (rs ++ [r])) (hg : (w2.alloc (.cells #[r] 35)).grownBy w6 vo.ownBlock) :
    ∃ f', MatParts B w6 v' (m ++ [x]) (rs ++ [r]) f' := by
  have hm := h.mono
  have hl2 := h.later h0 hb
  have hal : Below w2.heap.size w2 (w2.alloc (.cells #[r] 35)) := (Below.refl _ _).alloc (Nat.le_refl _) _
  have hl3 := hl2.later h0 hal
  have hty : ∀ g, vo.ownBlock = some g → ∃ c T f, (w2.alloc (.cells #[r] 35)).heap[g]? = some (.cells c T f) ∧ T ≠ 96 ∧ T ≠ 42 := fun g e => by
    obtain ⟨c, hc⟩ := own_ty hl3.1 g e
    exact ⟨c, _, _, hc, by decide, by decide⟩
  have hs6 : w2.heap.size ≤ w6.heap.size := Nat.le_trans hal.size hg.size
  obtain ⟨h1, h2, h3, h4, h5, h6⟩ := h
  have hfm : f m.length ≤ w2.heap.size := Nat.le_trans h5 hb.size
  refine ⟨fun i => if i ≤ m.length then f i else w2.heap.size, by simpa using ho, by simp [h2], ?_, ?_, ?_, ?_⟩
  · simpa using h3
  · intro i
    dsimp only
    split
    · split
      · exact h4 i
      · exact Nat.le_trans (hm i m.length (by omega)) hfm
    · split
      · omega
      · exact Nat.le_refl _
  · simp only [List.length_append, List.length_cons, List.length_nil]
    rw [if_neg (by omega)]
    exact hs6
  · intro i y u hy hu
    dsimp only
    rcases Nat.lt_or_ge i m.length with hi | hi
    · rw [List.getElem?_append_left hi] at hy
      rw [List.getElem?_append_left (by omega)] at hu
      rw [if_pos (by omega), if_pos (by omega)]
      exact (hl3.2.2.2.2.2 i y u hy hu).grown (by have := hm 0 i (Nat.zero_le _); omega) hg fun g e => .inr (hty g e)
    · rw [List.getElem?_append_right hi] at hy
      rw [List.getElem?_append_right (by omega), h2] at hu
      obtain ⟨j, hj⟩ : ∃ j, i - m.length = j := ⟨_, rfl⟩
      rw [hj] at hy hu
      cases j with
      | zero =>
        simp only [List.getElem?_cons_zero, Option.some.injEq] at hy hu
        subst hy hu
        have e : i = m.length := by omega
        subst e
        rw [if_pos (Nat.le_refl _), if_neg (by omega)]
        have hw0 : 0 < w.heap.size := by have := hm 0 m.length (Nat.zero_le _); omega
        exact (((RowIn.ofOut hr).later hw0 hal).grown hw0 hg fun g e => .inr (hty g e)).wide h5 (Nat.le_refl _)
      | succ j => simp at hy

def MatOwn (B : Nat) (w : World) (v : Value) (m : List (List Fr)) : Prop := ∃ rs f, MatParts B w v m rs f

theorem MatOwn.shape {B : Nat} {w : World} {v : Value} {m : List (List Fr)} (h : MatOwn B w v m) : ∃ ad cap, v = .slice ad m.length cap := by
  obtain ⟨rs, f, h1, _⟩ := h
  exact own_shape h1

theorem MatOwn.later {B : Nat} {w w' : World} {v : Value} {m : List (List Fr)} (h : MatOwn B w v m) (h0 : 0 < B) (hb : Below w.heap.size w w') : MatOwn B w' v m := by
  obtain ⟨rs, f, h1⟩ := h
  exact ⟨rs, f, h1.later h0 hb⟩

theorem MatOwn.base {B B' : Nat} {w : World} {v : Value} {m : List (List Fr)} (h : MatOwn B w v m) (hB : B' ≤ B) : MatOwn B' w v m := by
  obtain ⟨rs, f, h1, h2, h3, h4⟩ := h
  exact ⟨rs, f, own_base h1 hB, h2, Nat.le_trans hB h3, h4⟩

theorem MatOwn.nil {B : Nat} {w : World} (hB : B ≤ w.heap.size) : MatOwn B w (.slice none 0 0) [] := ⟨_, _, MatParts.nil hB⟩

/-- a matrix' value -/
def MatTold (w w' : World) (e : Ending) (x : List (List Fr) × Nat × Nat × Nat) : Prop :=
  ∃ r, e = .returned (.tuple #[r, .int .i64 (x.2.1 : Nat), .int .i64 (x.2.2.1 : Nat), .int .i64 (x.2.2.2 : Nat)]) ∧ MatOwn w.heap.size w' r x.1

set_option maxRecDepth 100000 in
set_option maxHeartbeats 6400000 in
/-- simileref02.Matrix -/
theorem matrix02_any (s : ByteArray) (w : World) (hs : s.size ≤ 400000000) (h0 : 0 < w.heap.size) :
    Calls Tryd.prog 18 #[.string s] w fun e w' => Below w.heap.size w w' ∧ MatTold w w' e (matR (runesOf s)) := by
  have hrl := runesAt_len s 0
  have hrs : (runesOf s).length ≤ 400000000 := by unfold runesOf; omega
  have hrb : ∀ r, r ∈ runesOf s → r < 2097152 := runesAt_lt s 0
  have Q1 := hid (runes02_any s w (by omega))
  have hCm : ∀ c, c ∈ partedL isEnd (runesOf s) → c.length ≤ 400000000 ∧ ∀ r, r ∈ c → r < 2097152 := fun c hc => by
    have h1 := sumLen_mem _ c hc
    rw [parted_len] at h1
    exact ⟨by omega, fun r hr => hrb r (parted_mem isEnd _ c hc r hr)⟩
  have hCl : (partedL isEnd (runesOf s)).length ≤ 400000001 := by
    have := sumLen_len (partedL isEnd (runesOf s))
    rw [parted_len] at this
    omega
  have Q2 := hid fun (r : Value) (w1 : World) (hn : Nums .i32 w.heap.size w1.heap.size w1 r (runesOf s)) => parted_any _ _ r _ ⟨#[59, 10]⟩ w1 hn (Nat.le_refl _) (by omega) (by decide)
  rw [parts_end] at Q2
  unfold matR
  obtain ⟨C, hC⟩ : ∃ C, partedL isEnd (runesOf s) = C := ⟨_, rfl⟩
  rw [hC] at hCm hCl Q2 ⊢
  obtain ⟨X, hX⟩ : ∃ X, matGo [] C = X := ⟨_, rfl⟩
  rw [hX]
  have HX := hid hX
  have HCM := hid hCm
  clear hC hX hCm hrl hrs hrb
  go_enter Tryd.func18, Tryd.ntmps18
  go_wp2_with fail
  refine Q1.out.mono ?_
  rintro e w0 ⟨r0, rfl, hn, hb0⟩
  have Q3 := hid (Q2.out r0 w0 hn)
  clear Q1 Q2 hn
  go_wp2_with fail
  refine Q3.out.mono ?_
  rintro e w1 ⟨hb01, r1, rfl, hrows⟩
  have hb1 := hb0.trans (hb01.mono hb0.size)
  obtain ⟨ad, cap, rfl⟩ := RowOf.shape hrows
  have HROWS := hid hrows
  clear Q3 hrows hb0 hb01
  go_wp2
  go_loopw [6, 16] (fun ov iv wr => ∃ (k : Nat) (out : List (List Fr)), iv = .int .i64 k ∧ k ≤ C.length ∧ MatOwn w1.heap.size wr ov out ∧ Below w1.heap.size w1 wr ∧ matGo out (C.drop k) = X ∧ out.length = k)
    (fun _ iv _ => C.length - (intOf iv).toNat)
  case atStart => exact ⟨0, [], rfl, Nat.zero_le _, MatOwn.nil (Nat.le_refl _), Below.refl _ _, HX.out, rfl⟩
  case round =>
    obtain ⟨k, out, rfl, hk, hout, hbel, hgo, hol⟩ := hrel
    have HGO := hid hgo
    have HOUT := hid hout
    have HOL := hid hol
    have hol2 : out.length ≤ 400000001 := by omega
    clear hgo hout hol
    by_cases hkl : k < C.length
    · obtain ⟨c, hx⟩ : ∃ c, C[k]? = some c := ⟨_, List.getElem?_eq_getElem hkl⟩
      obtain ⟨b, off, cap', r, hsh, hcap, _, hbw, hnr, hcell⟩ := HROWS.out.at k c hx
      simp only [Value.slice.injEq, true_and] at hsh
      obtain ⟨rfl, rfl⟩ := hsh
      have d0 : wr.cell? ⟨b, off + k, none⟩ = some r := (hbel.cell (p := ⟨b, off + k, none⟩) hbw).trans hcell
      obtain ⟨hcl, hcr⟩ := HCM.out c (List.mem_of_getElem? hx)
      have hdrop := drop_at C k c hx
      have hgo := HGO.out
      rw [hdrop, matGo] at hgo
      have f1 : (k : Int) < (C.length : Int) := by omega
      have q1 := row02_any _ _ r c wr (hnr.below hbel (Nat.le_refl _)) hbel.size hcl hcr
      obtain ⟨adr, cr, hrs⟩ : ∃ ad cp, r = .slice ad c.length cp := by obtain ⟨ad, cp, hv, _⟩ := hnr.open; exact ⟨ad, cp, hv⟩
      subst hrs
      obtain ⟨⟨RL, RN, RC⟩, hy⟩ : ∃ y, rowR c = y := ⟨_, rfl⟩
      rw [hy] at q1 hgo
      have Q1 := hid q1
      have HGO1 := hid hgo
      have HBEL := hid hbel
      have hsb := hbel.size
      obtain ⟨ado, co, hos⟩ := HOUT.out.shape
      subst hos
      clear hcell hnr hdrop hgo q1 hx hcr HGO hbel hy
      go_wp2_with fail
      refine Q1.out.mono ?_
      clear Q1
      rintro e w2 ⟨hb2, r2, rfl, hr2⟩
      obtain ⟨ad2, cap2, rfl⟩ := hr2.shape
      have HR2 := hid hr2
      have hC := HBEL.out.trans (hb2.mono hsb)
      have HC := hid hC
      have hB0 : 0 < w1.heap.size := by have := hb1.size; omega
      by_cases hce : RC = 0
      · subst hce
        have hg5 := HGO1.out
        rw [if_neg (by simp)] at hg5
        have HG5 := hid hg5
        obtain ⟨rs, f, hparts⟩ := HOUT.out
        have HPARTS := hid hparts
        have HOWN := hid (hparts.later hB0 hb2).1
        have HB2 := hid hb2
        clear HGO1 hg5 hparts hr2 hC hb2
        go_wp2_with (at_builtin; refine wpl_append1 elemFracRow rfl _ _ rfl w1.heap.size out.length 1 1 _ rs #[.slice ad2 RL.length cap2] HOWN.out rfl rfl rfl (by simp [Value.oneCell']) (by omega) (by decide) (by unfold maxLen; omega) HC.out HC.out.size ?_)
        intro g6 c6 w6 ho6 hb6 hg6
        have hsn := HPARTS.out.snoc hB0 HB2.out HR2.out (by simpa using ho6) hg6
        have HSN := hid hsn
        have HB6 := hid hb6
        clear hsn ho6 hb6 hg6
        go_wp2
        go_roundw
        case rel =>
          obtain ⟨f', hf'⟩ := HSN.out
          exact ⟨k + 1, out ++ [RL], by go_num, by omega, ⟨_, _, by simpa using hf'⟩, HB6.out, HG5.out, by have := HOL.out; simp; omega⟩
        case measure => simp [intOf]; omega
      · have hg5 := HGO1.out
        rw [if_pos hce] at hg5
        have hne : (((RC : Nat) : Int) != 0) = true := by simp; omega
        have HG5 := hid hg5
        clear HGO1 hg5 hr2 hC hb2
        go_wp2
        exact bodyPost_ret (v := .tuple #[.slice none 0 0, .int .i64 ((k : Int) + 1), .int .i64 (RN : Nat), .int .i64 (RC : Nat)]) (by simp [results, Tryd.results18, go_sem]) rfl ⟨hb1.trans (HC.out.mono hb1.size), by
          rw [← HG5.out]
          have := HOL.out
          refine ⟨_, ?_, MatOwn.nil (Nat.le_trans hb1.size HC.out.size)⟩
          simp [this]⟩
    · obtain rfl : k = C.length := by omega
      have hgo := HGO.out
      rw [List.drop_length, matGo] at hgo
      obtain ⟨ado, co, hos⟩ := HOUT.out.shape
      subst hos
      have HG := hid hgo
      have HBEL := hid hbel
      clear hgo hbel
      go_wp2
      exact bodyPost_ret (v := .tuple #[.slice ado out.length co, .int .i64 0, .int .i64 0, .int .i64 0]) (by simp [results, Tryd.results18, go_sem]) rfl ⟨hb1.trans (HBEL.out.mono hb1.size), by
        rw [← HG.out]
        exact ⟨_, rfl, HOUT.out.base hb1.size⟩⟩
end Go.Proofs.YtjjidmgeladicaaDoor
