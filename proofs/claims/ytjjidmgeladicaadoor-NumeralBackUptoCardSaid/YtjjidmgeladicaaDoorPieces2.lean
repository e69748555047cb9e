/- numeral.pieces: what it computes. -/
import Derived.Test.YtjjidmgeladicaaDoorPieces
namespace Go.Proofs.YtjjidmgeladicaaDoor
open Go.RowKit

/-! ### the runes with their places, and the pieces that they make -/

def placesF (s : ByteArray) : Nat → Nat → List (Nat × Nat)
  | 0, _ => []
  | f + 1, pos => if pos < s.size then (pos, (Utf8.decode s pos).1) :: placesF s f (pos + (Utf8.decode s pos).2) else []

/-- the runes of a text from a place on, each with its place -/
def placesAt (s : ByteArray) (pos : Nat) : List (Nat × Nat) := placesF s (s.size - pos) pos

theorem placesF_succ (s : ByteArray) : ∀ f pos, s.size - pos ≤ f → placesF s (f + 1) pos = placesF s f pos := by
  intro f
  induction f with
  | zero => intro pos h; simp [placesF]; omega
  | succ f ih =>
    intro pos h
    by_cases hp : pos < s.size
    · have hw := (decode_width s pos).1
      have h1 : placesF s (f + 1 + 1) pos = (pos, (Utf8.decode s pos).1) :: placesF s (f + 1) (pos + (Utf8.decode s pos).2) := by rw [placesF, if_pos hp]
      have h2 : placesF s (f + 1) pos = (pos, (Utf8.decode s pos).1) :: placesF s f (pos + (Utf8.decode s pos).2) := by rw [placesF, if_pos hp]
      rw [h1, h2, ih _ (by omega)]
    · have h1 : placesF s (f + 1 + 1) pos = [] := by rw [placesF, if_neg hp]
      have h2 : placesF s (f + 1) pos = [] := by rw [placesF, if_neg hp]
      rw [h1, h2]

theorem placesF_more (s : ByteArray) (pos n d : Nat) (h : s.size - pos ≤ n) : placesF s (n + d) pos = placesF s n pos := by
  induction d with
  | zero => rfl
  | succ d ih => rw [← Nat.add_assoc, placesF_succ s _ _ (by omega), ih]

theorem placesAt_end (s : ByteArray) (pos : Nat) (h : ¬ pos < s.size) : placesAt s pos = [] := by
  unfold placesAt
  rw [show s.size - pos = 0 from by omega]
  rfl

theorem placesAt_step (s : ByteArray) (pos : Nat) (h : pos < s.size) : placesAt s pos = (pos, (Utf8.decode s pos).1) :: placesAt s (pos + (Utf8.decode s pos).2) := by
  unfold placesAt
  obtain ⟨m, hm⟩ : ∃ m, s.size - pos = m + 1 := ⟨s.size - pos - 1, by omega⟩
  have hw := (decode_width s pos).1
  rw [hm, placesF, if_pos h]
  obtain ⟨d, hd⟩ : ∃ d, m = (s.size - (pos + (Utf8.decode s pos).2)) + d := ⟨m - (s.size - (pos + (Utf8.decode s pos).2)), by omega⟩
  rw [hd, placesF_more s _ _ d (Nat.le_refl _)]

def flush (s : ByteArray) (fr : Option Nat) (i : Nat) : List (ByteArray × Bool) := match fr with | none => [] | some a => [(s.extract a i, false)]

/-- the pieces from some runes on, where a word runs from fr on -/
def pcs (s : ByteArray) : Option Nat → List (Nat × Nat) → List (ByteArray × Bool)
  | fr, [] => flush s fr s.size
  | fr, (i, r) :: L => if kindOf r = 4 then flush s fr i ++ pcs s none L else if kindOf r = 5 then flush s fr i ++ (⟨#[]⟩, true) :: pcs s none L else pcs s (some (fr.getD i)) L

def piecesOf (s : ByteArray) : List (ByteArray × Bool) := pcs s none (placesAt s 0)

def frI (fr : Option Nat) : Int := match fr with | none => -1 | some a => (a : Nat)
def pieceC (x : ByteArray × Bool) : List Value := [.string x.1, .bool x.2]
def PieceR (_w : World) (x : ByteArray × Bool) (cs : List Value) : Prop := cs = pieceC x
def cellsP (l : List (ByteArray × Bool)) : List Value := (l.map pieceC).flatten

theorem cellsP_append (a b : List (ByteArray × Bool)) : cellsP (a ++ b) = cellsP a ++ cellsP b := by simp [cellsP]

theorem end_any (i : Nat) (fr : Option Nat) (s : ByteArray) (B bs bl bf : Nat) (l : List (ByteArray × Bool)) (w0 w : World) (h : PieceSt B w0 w bs bl bf s (frI fr) l.length (cellsP l)) (hB1 : B ≤ bl) (hB2 : B ≤ bf) (hai : ∀ a, fr = some a → a ≤ i) (his : i ≤ s.size)
    (hs : s.size ≤ 1000000000) (hn : l.length ≤ 1000000000) :
    Calls Tryd.prog 70 #[.int .i64 (i : Nat), .pointer (some ⟨bf, 0, none⟩), .pointer (some ⟨bl, 0, none⟩), .pointer (some ⟨bs, 0, none⟩)] w fun e w' => e = .returned (.tuple #[]) ∧
      PieceSt B w0 w' bs bl bf s (-1) (l ++ flush s fr i).length (cellsP (l ++ flush s fr i)) ∧ Iters w w' := by
  cases fr with
  | none =>
    refine (end_none _ bf bl bs w h.bf.one.1).mono ?_
    rintro e w' ⟨rfl, rfl⟩
    exact ⟨rfl, by simpa [flush, frI] using h, fun _ _ _ h => h⟩
  | some a =>
    refine (end_some i a s B bs bl bf _ _ w0 w h hB1 hB2 (hai a rfl) his hs hn).mono ?_
    rintro e w' ⟨rfl, h1, h2⟩
    refine ⟨rfl, ?_, h2⟩
    rw [cellsP_append, List.length_append]
    simpa [flush, cellsP, pieceC] using h1

theorem PieceSt.iter {B : Nat} {w0 w : World} {bs bl bf : Nat} {s : ByteArray} {f : Int} {n : Nat} {cells : List Value} (h : PieceSt B w0 w bs bl bf s f n cells) {k : Nat} {t : ByteArray} {pos : Nat} (hk : w.heap[k]? = some (.stringIter t pos)) (hkb : B ≤ k) (pos' : Nat) :
    PieceSt B w0 (w.iterAt k t pos') bs bl bf s f n cells := by
  obtain ⟨h1, h2, ⟨v, h3, h4⟩, h5⟩ := h
  exact ⟨iterAt_box h1 hk _, iterAt_box h2 hk _, ⟨v, iterAt_box h3 hk _, iterAt_own h4 hk _⟩, Lib.below_iterAt h5 hkb t pos'⟩

theorem cellsP_one (l : List (ByteArray × Bool)) : ∀ x, x ∈ l.map pieceC → x.length = 2 := by
  intro x hx
  obtain ⟨y, _, rfl⟩ := List.mem_map.1 hx
  rfl

theorem flush_len (s : ByteArray) (fr : Option Nat) (i : Nat) : (flush s fr i).length ≤ 1 := by cases fr <;> simp [flush]

set_option maxHeartbeats 3200000 in
theorem pieces_any (s : ByteArray) (w : World) (hs : s.size ≤ 400000000) :
    Calls Tryd.prog 39 #[.string s] w fun e w' => Below w.heap.size w w' ∧ ∃ r, e = .returned r ∧ RowOf 2 PieceR w.heap.size w'.heap.size w' r (piecesOf s) := by
  obtain ⟨hbel0, bs0, bl0, bf0, hsz⟩ := boxABC w #[.string s] #[.slice none 0 0] #[.int .i64 (-1)] 9 83 3
  obtain ⟨P, hP⟩ : ∃ P, piecesOf s = P := ⟨_, rfl⟩
  have HP := hid hP
  rw [hP]
  clear hP
  go_enter Tryd.func39, Tryd.ntmps39
  go_wp2
  revert hbel0 bs0 bl0 bf0 hsz
  generalize ((w.alloc (.cells #[.string s] 9)).alloc (.cells #[.slice none 0 0] 83)).alloc (.cells #[.int .i64 (-1)] 3) = W0
  intro hbel0 bs0 bl0 bf0 hsz
  have hk0 := World.iter_heap W0 s 0
  have hst0 : PieceSt w.heap.size w (W0.iter s 0) w.heap.size (w.heap.size + 1) (w.heap.size + 1 + 1) s (-1) 0 [] :=
    ⟨bs0.alloc _, bf0.alloc _, ⟨_, bl0.alloc _, World.ownsRow_nil _ _ _ _⟩, hbel0.alloc hbel0.size _⟩
  rw [hsz] at hk0
  obtain ⟨B, hB⟩ : ∃ B, w.heap.size = B := ⟨_, rfl⟩
  obtain ⟨W1, hW1⟩ : ∃ W1, W0.iter s 0 = W1 := ⟨_, rfl⟩
  rw [hB] at hst0 hk0 ⊢
  rw [hW1] at hst0 hk0 ⊢
  have HB := hid hB
  clear hW1 hB hsz bs0 bl0 bf0 hbel0
  obtain ⟨kb, hkb⟩ : ∃ kb, B + 1 + 1 + 1 = kb := ⟨_, rfl⟩
  rw [hkb]
  have hk1 : W1.heap[kb]? = some (.stringIter s 0) := by rw [← hkb]; exact hk0
  have hkB : B ≤ kb := by omega
  obtain ⟨bf, hbf⟩ : ∃ bf, B + 1 + 1 = bf := ⟨_, rfl⟩
  rw [hbf] at hst0 ⊢
  have hB2 : B ≤ bf := by omega
  obtain ⟨bl, hbl⟩ : ∃ bl, B + 1 = bl := ⟨_, rfl⟩
  rw [hbl] at hst0 ⊢
  have hB1 : B ≤ bl := by omega
  clear hkb hbf hbl hk0
  go_loopg [6] s.size (fun gk u wr => ∃ (pos : Nat) (fr : Option Nat) (l : List (ByteArray × Bool)), gk = s.size - pos ∧ wr.heap[kb]? = some (.stringIter s pos) ∧ PieceSt B w wr B bl bf s (frI fr) l.length (cellsP l) ∧
      (∀ a, fr = some a → a ≤ pos ∧ a ≤ s.size) ∧ l ++ pcs s fr (placesAt s pos) = P ∧ l.length ≤ 2 * pos ∧ pos ≤ s.size + 3)
  case atStart => exact ⟨0, none, [], by omega, hk1, hst0, by simp, by rw [← HP.out]; rfl, Nat.le_refl _, by omega⟩
  case round =>
    obtain ⟨pos, fr, l, hgk, hk, hst, hfr, hpc, hll, hps⟩ := hrel
    have HPC := hid hpc
    have HGK := hid hgk
    have HFR := hid hfr
    clear hpc hgk hfr hk1 hst0
    by_cases hp : pos < s.size
    · have hnx := fun ty => Lib.run_next_any_at (P := Tryd.prog) wr kb s pos ty hk hp
      have hw := decode_width s pos
      obtain ⟨rn, hrn⟩ : ∃ rn, (Utf8.decode s pos).1 = rn := ⟨_, rfl⟩
      obtain ⟨wd, hwd⟩ : ∃ wd, (Utf8.decode s pos).2 = wd := ⟨_, rfl⟩
      have hstp := placesAt_step s pos hp
      rw [hrn, hwd] at hstp hnx
      rw [hwd] at hw
      obtain ⟨p2, hp2⟩ : ∃ p2, pos + wd = p2 := ⟨_, rfl⟩
      rw [hp2] at hnx hstp
      have hlp : pos < p2 := by omega
      have hp23 : p2 ≤ s.size + 3 := by omega
      clear hp2 hw
      have hk2 := Lib.iterAt_heap wr kb s pos p2 hk
      have HST := hid (hst.iter hk hkB p2)
      have HK := hid hk2
      have HSTP := hid hstp
      have Q1 := hid (what_any rn (wr.iterAt kb s p2))
      obtain ⟨kd, hkd⟩ : ∃ kd, kindOf rn = kd := ⟨_, rfl⟩
      rw [hkd] at Q1
      have HKD := hid hkd
      have QE := hid (end_any pos fr s B B bl bf l w _ HST.out hB1 hB2 (fun a h => (HFR.out a h).1) (by omega) (by omega) (by omega))
      have hpcs : pcs s fr (placesAt s pos) = if kd = 4 then flush s fr pos ++ pcs s none (placesAt s p2) else if kd = 5 then flush s fr pos ++ (⟨#[]⟩, true) :: pcs s none (placesAt s p2) else pcs s (some (fr.getD pos)) (placesAt s p2) := by
        rw [HSTP.out, pcs, HKD.out]
      have HPCS := hid hpcs
      have HFL := hid (flush_len s fr pos)
      clear hstp hrn hwd hk2 hk hst hkd hpcs
      go_wp2_with fail
      refine Q1.out.mono ?_
      rintro e w' ⟨rfl, rfl⟩
      by_cases c4 : kd = 4
      · subst c4
        have hp4 := HPCS.out
        rw [if_pos rfl] at hp4
        have HP4 := hid hp4
        clear Q1 hp4 HPCS
        go_wp2_with fail
        refine QE.out.mono ?_
        rintro e w2 ⟨rfl, hst2, hit⟩
        have hk2 := hit _ _ _ HK.out
        have HST2 := hid hst2
        have HK2 := hid hk2
        clear QE hst2 hk2 hit
        go_wp2
        go_roundg (s.size - p2)
        case measure => have := HGK.out; omega
        case rel =>
          refine ⟨p2, none, _, rfl, HK2.out, HST2.out, by simp, ?_, ?_, hp23⟩
          · rw [← HPC.out, HP4.out, List.append_assoc]
          · have := HFL.out
            rw [List.length_append]
            omega
      · have n4 : (((kd : Nat) : Int) == 4) = false := by simp; omega
        by_cases c5 : kd = 5
        · subst c5
          have hp5 := HPCS.out
          rw [if_neg (by decide), if_pos rfl] at hp5
          have HP5 := hid hp5
          clear Q1 n4 hp5 HPCS
          go_wp2_with fail
          refine QE.out.mono ?_
          rintro e w2 ⟨rfl, hst2, hit⟩
          have hk2 := hit _ _ _ HK.out
          obtain ⟨hbs2, hbf2, ⟨v, hbl2, hown⟩, hbel2⟩ := hst2
          obtain ⟨d0, g0⟩ := hbl2.one
          have HK2 := hid hk2
          have HBS := hid hbs2
          have HBF := hid hbf2
          have HBL := hid hbl2
          obtain ⟨l2, hl2⟩ : ∃ l2, l ++ flush s fr pos = l2 := ⟨_, rfl⟩
          rw [hl2] at hown
          have hll2 : l2.length ≤ 2 * pos + 1 := by rw [← hl2, List.length_append]; have := HFL.out; omega
          have HL2 := hid hl2
          have hBw : B ≤ w2.heap.size := Nat.le_of_lt (Nat.lt_of_le_of_lt hB1 hbl2.lt)
          clear QE hk2 hit hbs2 hbf2 hbl2 hl2
          go_wp2_with (at_builtin; refine wpl_append1 elemPiece rfl _ _ rfl B l2.length 1 1 v (cellsP l2) #[.string ⟨#[]⟩, .bool true] hown rfl rfl rfl (by simp [Value.oneCell']) (by omega) (by decide) (by unfold maxLen; omega) hbel2 hBw ?_)
          intro g6 c6 w6 ho6 hb6 hg6
          have P1 := BoxIs.grown (BoxIs.alloc HBS.out (.cells #[.string ⟨#[]⟩, .bool true] 86)) hg6 (own_type (hown.alloc _) _ (by decide))
          have P2 := BoxIs.grown (BoxIs.alloc HBF.out (.cells #[.string ⟨#[]⟩, .bool true] 86)) hg6 (own_type (hown.alloc _) _ (by decide))
          have P3 := BoxIs.grown (BoxIs.alloc HBL.out (.cells #[.string ⟨#[]⟩, .bool true] 86)) hg6 (own_type (hown.alloc _) _ (by decide))
          have h6 : w6.heap[kb]? = some (.stringIter s p2) := by
            refine grown_iter hg6 ?_ (own_kind (hown.alloc _))
            exact (Below.heap_alloc w2 _ kb (Array.getElem?_eq_some_iff.1 HK2.out).1).trans HK2.out
          have n1 : bl ≠ B := by
            intro e
            have h1 : w6.heap[bl]? = some _ := P3
            have h2 : w6.heap[B]? = some _ := P1
            rw [e, h2] at h1
            simp at h1
          have n2 : bl ≠ bf := by
            intro e
            have h1 : w6.heap[bl]? = some _ := P3
            have h2 : w6.heap[bf]? = some _ := P2
            rw [e, h2] at h1
            simp at h1
          have n4 : g6 ≠ bl := by
            intro e
            obtain ⟨c, T', f, h1, h2⟩ := own_type ho6 83 (by decide) g6 rfl
            have h3 : w6.heap[bl]? = some _ := P3
            rw [e, h3] at h1
            simp only [Option.some.injEq, Obj.cells.injEq] at h1
            exact h2 h1.2.1.symm
          have n5 : bl ≠ kb := by
            intro e
            have h3 : w6.heap[bl]? = some _ := P3
            rw [e, h6] at h3
            cases h3
          have FIN : Hid (PieceSt B w (w6.setCell ⟨bl, 0, none⟩ (.slice (some ⟨g6, 0, none⟩) (l2.length + 1) c6)) B bl bf s (-1) (l2 ++ [((⟨#[]⟩ : ByteArray), true)]).length (cellsP (l2 ++ [((⟨#[]⟩ : ByteArray), true)]))) := by
            refine ⟨P1.other _ _ (Ne.symm n1), P2.other _ _ (Ne.symm n2), ⟨_, P3.set 0 _, ?_⟩, hb6.setCell (p := ⟨bl, 0, none⟩) hB1 _⟩
            rw [cellsP_append, List.length_append]
            exact own_setOther ho6 _ _ (by simp [Value.ownBlock]; exact n4)
          have HK6 : Hid ((w6.setCell ⟨bl, 0, none⟩ (.slice (some ⟨g6, 0, none⟩) (l2.length + 1) c6)).heap[kb]? = some (.stringIter s p2)) := by
            show (w6.setCell ⟨bl, 0, none⟩ _).heap[kb]? = _
            rw [Below.heap_setCell _ _ _ _ (Ne.symm n5)]
            exact h6
          obtain ⟨m0, q0⟩ := P3.one
          clear P1 P2 P3 h6 n1 n2 n4 n5 ho6 hb6 hg6 hown hbel2 d0 g0 HK2 HBS HBF HBL
          go_wp2
          go_roundg (s.size - p2)
          case measure => have := HGK.out; omega
          case rel =>
            refine ⟨p2, none, _, rfl, HK6.out, FIN.out, by simp, ?_, ?_, hp23⟩
            · rw [← HPC.out, HP5.out, ← HL2.out]
              simp
            · rw [List.length_append]
              simp
              omega
        · have n5 : (((kd : Nat) : Int) == 5) = false := by simp; omega
          have hpcs := HPCS.out
          rw [if_neg c4, if_neg c5] at hpcs
          have HPCS2 := hid hpcs
          clear Q1 QE HPCS hpcs
          obtain ⟨e0, k0⟩ := HST.out.bf.one
          cases fr with
          | none =>
            simp only [frI] at e0
            have n6 : bf ≠ B := by
              intro e
              have h1 : (wr.iterAt kb s p2).heap[bf]? = some _ := HST.out.bf
              have h2 : (wr.iterAt kb s p2).heap[B]? = some _ := HST.out.bs
              rw [e, h2] at h1
              simp at h1
            have n7 : bf ≠ bl := by
              intro e
              obtain ⟨v, h2, _⟩ := HST.out.row
              have h1 : (wr.iterAt kb s p2).heap[bf]? = some _ := HST.out.bf
              have h2 : (wr.iterAt kb s p2).heap[bl]? = some _ := h2
              rw [e, h2] at h1
              simp at h1
            have n8 : bf ≠ kb := by
              intro e
              have h1 : (wr.iterAt kb s p2).heap[bf]? = some _ := HST.out.bf
              rw [e, HK.out] at h1
              cases h1
            have FIN : Hid (PieceSt B w ((wr.iterAt kb s p2).setCell ⟨bf, 0, none⟩ (.int .i64 (pos : Nat))) B bl bf s (frI (some pos)) l.length (cellsP l)) := by
              obtain ⟨h1, h2, ⟨v, h3, h4⟩, h5⟩ := HST.out
              refine ⟨h1.other _ _ (Ne.symm n6), h2.set 0 _, ⟨v, h3.other _ _ (Ne.symm n7), own_setOther h4 _ _ ?_⟩, h5.setCell (p := ⟨bf, 0, none⟩) hB2 _⟩
              intro e
              obtain ⟨c, T', f, h6, h7⟩ := own_type h4 3 (by decide) _ e
              have h8 : (wr.iterAt kb s p2).heap[bf]? = some _ := h2
              rw [h8] at h6
              simp only [Option.some.injEq, Obj.cells.injEq] at h6
              exact h7 h6.2.1.symm
            have HK6 : Hid (((wr.iterAt kb s p2).setCell ⟨bf, 0, none⟩ (.int .i64 (pos : Nat))).heap[kb]? = some (.stringIter s p2)) := by
              show ((wr.iterAt kb s p2).setCell ⟨bf, 0, none⟩ _).heap[kb]? = _
              rw [Below.heap_setCell _ _ _ _ (Ne.symm n8)]
              exact HK.out
            clear n6 n7 n8
            go_wp2
            go_roundg (s.size - p2)
            case measure => have := HGK.out; omega
            case rel =>
              refine ⟨p2, some pos, l, rfl, HK6.out, FIN.out, ?_, ?_, by omega, hp23⟩
              · intro a ha
                cases ha
                omega
              · rw [← HPC.out, HPCS2.out]; rfl
          | some a =>
            have ha := HFR.out a rfl
            have hA := hid ha
            clear ha
            simp only [frI] at e0
            have na : ¬ ((a : Int) < 0) := by omega
            go_wp2
            go_roundg (s.size - p2)
            case measure => have := HGK.out; omega
            case rel =>
              refine ⟨p2, some a, l, rfl, HK.out, HST.out, ?_, ?_, by omega, hp23⟩
              · intro a' ha'
                cases ha'
                have := hA.out
                omega
              · rw [← HPC.out, HPCS2.out]; rfl
    · have hnx := fun ty => Lib.run_next_end_at (P := Tryd.prog) wr kb s pos ty hk hp
      have hpe := placesAt_end s pos hp
      have hpc2 := HPC.out
      rw [hpe, pcs] at hpc2
      have QE := hid (end_any s.size fr s B B bl bf l w _ hst hB1 hB2 (fun a h => (HFR.out a h).2) (Nat.le_refl _) (by omega) (by omega))
      rw [hpc2] at QE
      obtain ⟨c0, f0⟩ := hst.bs.one
      clear hpe hpc2 hst HPC
      go_wp2_with fail
      refine QE.out.mono ?_
      rintro e w2 ⟨rfl, ⟨hbs2, hbf2, ⟨v, hbl2, hown⟩, hbel2⟩, hit⟩
      obtain ⟨d0, g0⟩ := hbl2.one
      clear QE hbs2 hbf2 hbl2 hit c0 f0 hnx
      go_wp2
      go_ret
      rw [← HB.out] at hown hbel2 ⊢
      refine ⟨hbel2, v, rfl, RowOf.ofOwn (cs := P.map pieceC) (by decide) hown (by simp) (cellsP_one P) ?_⟩
      intro i x c hx hc
      rw [List.getElem?_map, hx] at hc
      simp only [Option.map_some, Option.some.injEq] at hc
      exact hc.symm
end Go.Proofs.YtjjidmgeladicaaDoor
