/- numeral.PrintRow, simileref02.PrintRow: a row's text. -/
import Derived.Test.YtoijfckollafhaaGreatBuild2
import Derived.Test.YtoijfckollafhaaGreatFracPrint
import Derived.Test.YtoijfckollafhaaGreatRow0
namespace Go.Proofs.YtoijfckollafhaaGreat
open Go.RowKit

/-- texts, one behind the other, with something between them -/
def joinS (sep : List UInt8) (L : List (List UInt8)) : List UInt8 := match L with | [] => [] | x :: r => x ++ (r.map (sep ++ ·)).flatten

theorem joinS_snoc (sep : List UInt8) (L : List (List UInt8)) (x : List UInt8) : joinS sep (L ++ [x]) = if L = [] then x else joinS sep L ++ sep ++ x := by
  cases L with
  | nil => simp [joinS]
  | cons y r => simp [joinS]

abbrev FQ := Bool × List Nat × Bool × List Nat

def fracB (x : Bool × List Nat × Bool × List Nat) : List UInt8 := fracS x.1 x.2.2.1 (natOf x.2.1) (natOf x.2.2.2)
def rowB (l : List (Bool × List Nat × Bool × List Nat)) : List UInt8 := joinS [32] (l.map fracB)

def bulkF (l : List (Bool × List Nat × Bool × List Nat)) : Nat := (l.map fun x => x.2.1.length + x.2.2.2.length + 1).sum

theorem bulkF_mem (l : List (Bool × List Nat × Bool × List Nat)) (x : Bool × List Nat × Bool × List Nat) (h : x ∈ l) : x.2.1.length + x.2.2.2.length + 1 ≤ bulkF l := by
  induction l with
  | nil => cases h
  | cons y l ih =>
    simp only [bulkF, List.map_cons, List.sum_cons] at ih ⊢
    rcases List.mem_cons.1 h with rfl | h
    · omega
    · have := ih h; omega

theorem bulkF_take (l : List (Bool × List Nat × Bool × List Nat)) (k : Nat) : bulkF (l.take k) ≤ bulkF l := by
  induction l generalizing k with
  | nil => simp
  | cons y l ih =>
    cases k with
    | zero => simp [bulkF]
    | succ k =>
      have := ih k
      simp only [bulkF, List.take_succ_cons, List.map_cons, List.sum_cons] at this ⊢
      omega

theorem bulkF_len (l : List (Bool × List Nat × Bool × List Nat)) : l.length ≤ bulkF l := by
  induction l with
  | nil => simp
  | cons y l ih => simp only [bulkF, List.map_cons, List.sum_cons, List.length_cons] at ih ⊢; omega

theorem fracB_len (x : Bool × List Nat × Bool × List Nat) (h1 : ∀ y, y ∈ x.2.1 → y < 4294967296) (h2 : ∀ y, y ∈ x.2.2.2 → y < 4294967296) : (fracB x).length ≤ 40 * (x.2.1.length + x.2.2.2.length + 1) := by
  have e1 := intS_len 10 (x.1 != x.2.2.1) x.2.1 (by decide) h1
  have e2 := digS_len 10 x.2.2.2 (by decide) h2
  unfold fracB fracS
  rw [List.length_append]
  split
  · simp; omega
  · simp only [List.length_cons]; omega

def SmallF (l : List (Bool × List Nat × Bool × List Nat)) : Prop := ∀ x, x ∈ l → (∀ y, y ∈ x.2.1 → y < 4294967296) ∧ (∀ y, y ∈ x.2.2.2 → y < 4294967296)

theorem rowB_len (l : List (Bool × List Nat × Bool × List Nat)) (h : SmallF l) : (rowB l).length ≤ 41 * bulkF l := by
  have hs : ∀ (r : List (Bool × List Nat × Bool × List Nat)), SmallF r → (((r.map fracB).map ([32] ++ ·)).flatten).length ≤ 41 * bulkF r := by
    intro r
    induction r with
    | nil => simp
    | cons y r ih =>
      intro hr
      have h1 := fracB_len y (hr y (List.mem_cons_self ..)).1 (hr y (List.mem_cons_self ..)).2
      have h2 := ih fun x hx => hr x (List.mem_cons_of_mem _ hx)
      simp only [bulkF, List.map_cons, List.sum_cons, List.flatten_cons, List.length_append, List.length_cons, List.length_nil] at h2 ⊢
      omega
  cases l with
  | nil => simp [rowB, joinS]
  | cons y r =>
    have h1 := fracB_len y (h y (List.mem_cons_self ..)).1 (h y (List.mem_cons_self ..)).2
    have h2 := hs r fun x hx => h x (List.mem_cons_of_mem _ hx)
    simp only [rowB, List.map_cons, joinS, List.length_append, bulkF, List.sum_cons] at h2 ⊢
    omega

theorem rowB_snoc (l : List (Bool × List Nat × Bool × List Nat)) (x : Bool × List Nat × Bool × List Nat) : rowB (l ++ [x]) = if l = [] then fracB x else rowB l ++ [32] ++ fracB x := by
  unfold rowB
  rw [List.map_append, List.map_cons, List.map_nil, joinS_snoc]
  simp

theorem Fracs.small {lo hi : Nat} {w : World} {v : Value} {l : List (Bool × List Nat × Bool × List Nat)} (h : Fracs lo hi w v l) : SmallF l := by
  intro x hx
  obtain ⟨k, hk⟩ := List.mem_iff_getElem?.1 hx
  obtain ⟨b, off, cap, q, p, _, _, _, _, hq, hp, _⟩ := h.at k x hk
  exact ⟨hq.lt, hp.lt⟩

theorem builder_later {T e : TypeId} {B b : Nat} {bs : List Value} {w w' : World} (h : Lib.IsBuilder T e B b bs w) (hb : Below w.heap.size w w') : Lib.IsBuilder T e B b bs w' := by
  have hh : ∀ p, Lib.BuilderAt T e B b p bs w → Lib.BuilderAt T e B b p bs w' := by
    rintro p ⟨h1, v, h2, h3, h4⟩
    exact ⟨h1, v, by rw [hb.block b (Array.getElem?_eq_some_iff.1 h2).1]; exact h2, own_keep h3 hb, h4⟩
  exact h.elim (fun x => .inl (hh _ x)) (fun x => .inr (hh _ x))

theorem strCells_B (l : List UInt8) : Lib.strCells (strOf l) = Lib.byteCells l := rfl
theorem byteCells_app (a b : List UInt8) : Lib.byteCells a ++ Lib.byteCells b = Lib.byteCells (a ++ b) := by simp [Lib.byteCells]

set_option maxHeartbeats 3200000 in
theorem printRow_any (lo h1 : Nat) (v : Value) (l : List (Bool × List Nat × Bool × List Nat)) (w : World) (h : Fracs lo h1 w v l) (hhi : h1 ≤ w.heap.size) (hbk : bulkF l ≤ 1073741824) :
    Calls Tryz.prog 124 #[v] w fun e w' => Below w.heap.size w w' ∧
      (((∃ x, x ∈ l ∧ natOf x.2.2.2 = 0) ∧ e = .returned (.tuple #[.string ⟨#[]⟩, .int .i64 6])) ∨ ((∀ x, x ∈ l → natOf x.2.2.2 ≠ 0) ∧ e = .returned (.tuple #[.string (strOf (rowB l)), .int .i64 0]))) := by
  obtain ⟨ad, cap, rfl⟩ := RowOf.shape h
  have hsm := h.small
  have hlen := bulkF_len l
  obtain ⟨hb0, b0, hsz⟩ := boxA w #[.pointer none, .slice none 0 0] 248
  have HH := hid h
  have HSM := hid hsm
  have hbu0 : Lib.IsBuilder 248 5 w.heap.size w.heap.size (Lib.byteCells (rowB [])) (w.alloc (.cells #[.pointer none, .slice none 0 0] 248)) :=
    .inl ⟨Nat.le_refl _, .slice none 0 0, b0, by simpa [Lib.byteCells, rowB, joinS] using World.ownsRow_nil _ _ _ _, by simp [Value.ownBlock]⟩
  clear h hsm
  go_enter Tryz.func124, Tryz.ntmps124
  go_wp2
  revert hb0 b0 hsz hbu0
  generalize w.alloc (.cells #[.pointer none, .slice none 0 0] 248) = W0
  intro hb0 b0 hsz hbu0
  clear b0 hsz
  go_loopg [11] l.length (fun gk t wr => ∃ k : Nat, gk = l.length - k ∧ t = .int .i64 k ∧ k ≤ l.length ∧ Lib.IsBuilder 248 5 w.heap.size w.heap.size (Lib.byteCells (rowB (l.take k))) wr ∧ Below w.heap.size w wr ∧
      (∀ x, x ∈ l.take k → natOf x.2.2.2 ≠ 0))
  case atStart => exact ⟨0, rfl, rfl, Nat.zero_le _, hbu0, hb0, by simp⟩
  case round =>
    obtain ⟨k, hgk, rfl, hk, hbu, hbel, hnz⟩ := hrel
    have HGK := hid hgk
    have HNZ := hid hnz
    clear hgk hnz hbu0 hb0
    by_cases hkl : k < l.length
    · obtain ⟨⟨n1, xs, n2, ys⟩, hx⟩ : ∃ x, l[k]? = some x := ⟨_, List.getElem?_eq_getElem hkl⟩
      obtain ⟨b, off, cp, q, p, hsh, hc, _, hbh, hq, hp, c0, c1, c2, c3⟩ := (HH.out.below hbel hhi).at k _ hx
      simp only [Value.slice.injEq, true_and] at hsh
      obtain ⟨rfl, rfl⟩ := hsh
      dsimp only at hq hp c0 c1 c2 c3
      have hmem := List.mem_of_getElem? hx
      have hbm := bulkF_mem l _ hmem
      dsimp only at hbm
      have hsz := hbel.size
      obtain ⟨ad3, cap3, rfl⟩ := hq.shape
      obtain ⟨ad4, cap4, rfl⟩ := hp.shape
      obtain ⟨hal, bp, hsz1⟩ := boxA wr #[.bool n1, .slice ad3 xs.length cap3, .bool n2, .slice ad4 ys.length cap4] 99
      have q1 := printFrac_any _ _ _ _ n1 n2 _ _ xs ys _ (hq.below hal (Nat.le_trans hhi hsz)) (by rw [hsz1]; omega) (by omega) (hp.below hal (Nat.le_trans hhi hsz)) (by rw [hsz1]; omega) (by omega)
      have Q1 := hid q1
      have f1 : (k : Int) < (l.length : Int) := by omega
      obtain ⟨⟨e0, e1, e2, e3⟩, j0, j1, j2, j3⟩ := bp.four
      have hbu1 := builder_later hbu hal
      have hB1 := hbel.trans (hal.mono hsz)
      have HX := hid hx
      have hlk : (l.take k).length = k := by simp; omega
      have hrl := rowB_len (l.take k) (fun x hx => HSM.out x (List.mem_of_mem_take hx))
      have hrl2 := bulkF_take l k
      have htl := fracB_len (n1, xs, n2, ys) (HSM.out _ hmem).1 (HSM.out _ hmem).2
      have htake : l.take (k + 1) = l.take k ++ [(n1, xs, n2, ys)] := by
        rw [List.take_add_one, hx]; rfl
      have HT := hid htake
      dsimp only at htl
      clear q1 hx hbu bp hal hq hp htake
      go_wp2_with fail
      refine Q1.out.mono ?_
      rintro e w2 ⟨hb2, h2⟩
      have hbu2 := builder_later hbu1 hb2
      have hB2 := hB1.trans (hb2.mono hB1.size)
      clear Q1 hbu1 hb2 c0 c1 c2 c3 e0 e1 e2 e3 j0 j1 j2 j3
      rcases h2 with ⟨hz, rfl⟩ | ⟨hz, rfl⟩
      · have HZ := hid hz
        have HM := hid hmem
        clear hz hmem hbu2
        go_wp2
        go_ret2
        exact ⟨hB2, .inl ⟨⟨_, HM.out, HZ.out⟩, rfl⟩⟩
      · have hS : ∃ S, strOf (fracS n1 n2 (natOf xs) (natOf ys)) = S := ⟨_, rfl⟩
        obtain ⟨S, hS⟩ := hS
        have hSl : S.size = (fracB (n1, xs, n2, ys)).length := by rw [← hS]; rfl
        have hnz2 : ∀ x, x ∈ l.take (k + 1) → natOf x.2.2.2 ≠ 0 := by
          intro x hx
          rw [HT.out, List.mem_append] at hx
          rcases hx with h | h
          · exact HNZ.out x h
          · simp only [List.mem_singleton] at h
            subst h
            exact hz
        have HNZ2 := hid hnz2
        rw [hS]
        have HS := hid hS
        clear hz hnz2 hmem hS
        by_cases hk0 : k = 0
        · subst hk0
          have hwl : (Lib.byteCells (rowB (l.take 0))).length + S.size ≤ 140737488355328 := by simp [rowB, joinS, Lib.byteCells]; omega
          have Q2 := hid (writeStr_any w.heap.size w.heap.size _ S w2 hbu2 hwl hB2.size)
          clear hwl hbu2
          go_wp2_with fail
          refine Q2.out.mono ?_
          rintro e w3 ⟨⟨v3, rfl⟩, hbu3, hb3⟩
          rw [← HS.out, strCells_B, byteCells_app] at hbu3
          have hB3 := hB2.trans hb3
          have HBU := hid hbu3
          clear Q2 hbu3 hb3
          go_wp2
          go_roundg (l.length - 1)
          case measure => have := HGK.out; omega
          case rel =>
            refine ⟨1, rfl, rfl, by omega, .inr ?_, hB3, HNZ2.out⟩
            rw [HT.out, rowB_snoc]
            simpa [rowB, joinS, fracB] using HBU.out
        · have hwl : (Lib.byteCells (rowB (l.take k))).length + 4 ≤ 140737488355328 := by simp [Lib.byteCells]; omega
          have hk1 : 0 < (k : Int) := by omega
          have Q2 := hid (writeByte_any w.heap.size w.heap.size _ 32 w2 hbu2 hwl hB2.size)
          clear hwl hbu2
          go_wp2_with fail
          refine Q2.out.mono ?_
          rintro e w3 ⟨⟨v3, rfl⟩, hbu3, hb3⟩
          have e32 : ([.int .u8 ((32 : Nat) : Int)] : List Value) = Lib.byteCells [32] := rfl
          rw [e32, byteCells_app] at hbu3
          have hB3 := hB2.trans hb3
          have hwl : (Lib.byteCells (rowB (l.take k) ++ [32])).length + S.size ≤ 140737488355328 := by simp [Lib.byteCells]; omega
          have Q3 := hid (writeStr_any w.heap.size w.heap.size _ S w3 (.inr hbu3) hwl hB3.size)
          clear Q2 hbu3 hb3 hwl e32
          go_wp2_with fail
          refine Q3.out.mono ?_
          rintro e w4 ⟨⟨v4, rfl⟩, hbu4, hb4⟩
          rw [← HS.out, strCells_B, byteCells_app] at hbu4
          have hB4 := hB3.trans hb4
          have HBU := hid hbu4
          have hne : l.take k ≠ [] := by intro e; rw [e] at hlk; simp at hlk; omega
          have HNE := hid hne
          clear Q3 hbu4 hb4 hne
          go_wp2
          go_roundg (l.length - (k + 1))
          case measure => have := HGK.out; omega
          case rel =>
            refine ⟨k + 1, rfl, by go_num, by omega, .inr ?_, hB4, HNZ2.out⟩
            rw [HT.out, rowB_snoc, if_neg HNE.out]
            exact HBU.out
    · obtain rfl : k = l.length := by omega
      rw [List.take_length] at hbu HNZ
      have Q3 := hid (Tryz.Builder_String_any w.heap.size w.heap.size _ wr hbu hbel.size)
      go_wp2_with fail
      refine Q3.out.mono ?_
      rintro e w3 ⟨rfl, hb3⟩
      go_wp2
      go_ret2
      exact ⟨hbel.trans hb3, .inr ⟨HNZ.out, rfl⟩⟩

theorem sp_str (S : ByteArray) (l : List UInt8) (h : strOf l = S) : S ++ ({ data := #[32] } : ByteArray) = strOf (l ++ [32]) := by
  rw [← h]
  exact strOf_append l [32]

end Go.Proofs.YtoijfckollafhaaGreat
