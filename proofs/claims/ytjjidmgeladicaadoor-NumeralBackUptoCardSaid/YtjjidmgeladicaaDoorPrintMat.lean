/- numeral.PrintMatrix, simileref02.PrintMatrix: a matrix' text. -/
import Derived.Test.YtjjidmgeladicaaDoorRats
import Derived.Lib.Join
namespace Go.Proofs.YtjjidmgeladicaaDoor
open Go.RowKit

theorem elemStr : Elem Tryd.prog 90 9 (.string ⟨#[]⟩) 1 16 :=
  ⟨Tryd.underlying90, by kernel_rfl, rfl, by decide⟩

def matB (m : List (List (Bool × List Nat × Bool × List Nat))) : List UInt8 := joinS [59, 32] (m.map rowB)

theorem matB_snoc (m : List (List (Bool × List Nat × Bool × List Nat))) (l : List (Bool × List Nat × Bool × List Nat)) : matB (m ++ [l]) = if m = [] then rowB l else matB m ++ [59, 32] ++ rowB l := by
  unfold matB
  rw [List.map_append, List.map_cons, List.map_nil, joinS_snoc]
  simp

theorem matB_len (m : List (List (Bool × List Nat × Bool × List Nat))) (h : ∀ l, l ∈ m → SmallF l) : (matB m).length ≤ 43 * bulkM m := by
  have hs : ∀ (r : List (List (Bool × List Nat × Bool × List Nat))), (∀ l, l ∈ r → SmallF l) → (((r.map rowB).map ([59, 32] ++ ·)).flatten).length ≤ 43 * bulkM r := by
    intro r
    induction r with
    | nil => simp
    | cons y r ih =>
      intro hr
      have h1 := rowB_len y (hr y (List.mem_cons_self ..))
      have h2 := ih fun x hx => hr x (List.mem_cons_of_mem _ hx)
      simp only [bulkM, List.map_cons, List.sum_cons, List.flatten_cons, List.length_append, List.length_cons, List.length_nil] at h2 ⊢
      omega
  cases m with
  | nil => simp [matB, joinS]
  | cons y r =>
    have h1 := rowB_len y (h y (List.mem_cons_self ..))
    have h2 := hs r fun x hx => h x (List.mem_cons_of_mem _ hx)
    simp only [matB, List.map_cons, joinS, List.length_append, bulkM, List.sum_cons] at h2 ⊢
    omega

theorem bulkM_take (m : List (List (Bool × List Nat × Bool × List Nat))) (k : Nat) : bulkM (m.take k) ≤ bulkM m := by
  induction m generalizing k with
  | nil => simp
  | cons y l ih =>
    cases k with
    | zero => simp [bulkM]
    | succ k =>
      have := ih k
      simp only [bulkM, List.take_succ_cons, List.map_cons, List.sum_cons] at this ⊢
      omega

theorem FracRows.small {lo hi : Nat} {w : World} {v : Value} {m : List (List (Bool × List Nat × Bool × List Nat))} (h : FracRows lo hi w v m) : ∀ l, l ∈ m → SmallF l := by
  intro l hl
  obtain ⟨k, hk⟩ := List.mem_iff_getElem?.1 hl
  obtain ⟨b, off, cap, r, _, _, _, _, hr, _⟩ := h.at k l hk
  exact hr.small

def strsV (L : List (List UInt8)) : List Value := L.map fun x => .string (strOf x)

/-- does every fraction mean something? -/
def AllMay (m : List (List (Bool × List Nat × Bool × List Nat))) : Prop := ∀ l, l ∈ m → ∀ x, x ∈ l → natOf x.2.2.2 ≠ 0

/-- what a matrix' text is; -/
def MatSays (m : List (List (Bool × List Nat × Bool × List Nat))) (e : Ending) (bad good : Value) : Prop :=
  (¬ AllMay m ∧ e = .returned (.tuple #[.string ⟨#[]⟩, bad])) ∨ (AllMay m ∧ e = .returned (.tuple #[.string (strOf (matB m)), good]))

theorem own_cellsV {B : Nat} {w : World} {e : TypeId} {g n cap : Nat} {xs : List Value} (h : w.ownsRow B e 1 (.slice (some ⟨g, 0, none⟩) n cap) n xs) : g < w.heap.size ∧ n ≤ cap ∧ ∀ j u, xs[j]? = some u → w.cell? ⟨g, 0 + j, none⟩ = some u := by
  refine ⟨(h.lt g rfl).2, ?_, fun j u hj => ?_⟩
  · rcases h.2 with ⟨h1, _⟩ | ⟨g', cap', cur, h1, _, _, h2, _⟩
    · simp at h1
    · simp only [Value.slice.injEq, true_and] at h1
      rw [h1.2]
      exact h2
  · have := h.cells (g := g) rfl j u hj
    rwa [Addr.add_lit] at this

theorem join_eq (L : List (List UInt8)) (sep : List UInt8) : Lib.join L sep = joinS sep L := by
  cases L with
  | nil => rfl
  | cons x r => rw [Lib.join_cons]; rfl

set_option maxHeartbeats 3200000 in
theorem printMatrix_any (lo h1 : Nat) (v : Value) (m : List (List (Bool × List Nat × Bool × List Nat))) (w : World) (h : FracRows lo h1 w v m) (hhi : h1 ≤ w.heap.size) (hbk : bulkM m ≤ 1073741824) :
    Calls Tryd.prog 28 #[v] w fun e w' => Below w.heap.size w w' ∧ MatSays m e (.int .i64 6) (.int .i64 0) := by
  obtain ⟨ad, cap, rfl⟩ := RowOf.shape h
  have hsm := h.small
  have hlen := bulkM_len m
  have hml := matB_len m hsm
  have HH := hid h
  have HSM := hid hsm
  clear h hsm
  go_enter Tryd.func28, Tryd.ntmps28
  go_wp2
  go_loopg [4, 11] m.length (fun gk lv t wr => ∃ (k : Nat) (L : List (List UInt8)), gk = m.length - k ∧ t = .int .i64 k ∧ k ≤ m.length ∧ L = (m.take k).map rowB ∧ wr.ownsRow w.heap.size 9 1 lv L.length (strsV L) ∧ Below w.heap.size w wr ∧ AllMay (m.take k))
  case atStart => exact ⟨0, [], rfl, rfl, Nat.zero_le _, rfl, World.ownsRow_nil _ _ _ _, Below.refl _ _, by intro l hl; simp at hl⟩
  case round =>
    obtain ⟨k, L, hgk, rfl, hk, hL, hown, hbel, hnz⟩ := hrel
    have hLl : L.length = k := by rw [hL]; simp; omega
    have HL := hid hL
    have HLL := hid hLl
    have hLb : L.length ≤ m.length := by omega
    have HGK := hid hgk
    have HNZ := hid hnz
    have HOWN := hid hown
    clear hgk hnz hL hown hLl
    by_cases hkl : k < m.length
    · obtain ⟨l, hx⟩ : ∃ x, m[k]? = some x := ⟨_, List.getElem?_eq_getElem hkl⟩
      obtain ⟨b, off, cp, r, hsh, hc, _, hbh, hr, c0⟩ := (HH.out.below hbel hhi).at k _ hx
      simp only [Value.slice.injEq, true_and] at hsh
      obtain ⟨rfl, rfl⟩ := hsh
      have hmem := List.mem_of_getElem? hx
      have hbm := bulkM_mem m _ hmem
      have hsz := hbel.size
      obtain ⟨ad3, cap3, rfl⟩ := RowOf.shape hr
      have Q1 := hid (printRow_any _ _ _ l wr hr (by omega) (by omega))
      have f1 : (k : Int) < (m.length : Int) := by omega
      have htake : m.take (k + 1) = m.take k ++ [l] := by
        rw [List.take_add_one, hx]; rfl
      have HT := hid htake
      have HX := hid hmem
      clear hx hr htake hmem
      go_wp2_with fail
      refine Q1.out.mono ?_
      rintro e w2 ⟨hb2, h2⟩
      have hB2 := hbel.trans (hb2.mono hsz)
      have hown2 := own_keep HOWN.out hb2
      have HOWN2 := hid hown2
      clear Q1 hb2 c0 hown2
      rcases h2 with ⟨hz, rfl⟩ | ⟨hz, rfl⟩
      · have HZ := hid hz
        clear hz
        go_wp2
        go_ret2
        refine ⟨hB2, .inl ⟨fun ha => ?_, rfl⟩⟩
        obtain ⟨x, h1, h2⟩ := HZ.out
        exact ha l HX.out x h1 h2
      · have hnz2 : AllMay (m.take (k + 1)) := by
          intro l' hl' x hx
          rw [HT.out, List.mem_append] at hl'
          rcases hl' with h | h
          · exact HNZ.out l' h x hx
          · simp only [List.mem_singleton] at h
            subst h
            exact hz x hx
        have HNZ2 := hid hnz2
        clear hz hnz2
        obtain ⟨S, hS⟩ : ∃ S, strOf (rowB l) = S := ⟨_, rfl⟩
        rw [hS]
        have HS := hid hS
        clear hS
        go_wp2_with (at_builtin; go_loud (refine wpl_append1 elemStr rfl _ _ rfl w.heap.size L.length 1 1 _ (strsV L) #[.string S] HOWN2.out rfl rfl rfl (by simp [Value.oneCell']) (by omega) (by decide) (by unfold maxLen; omega) hB2 hB2.size ?_))
        intro g6 c6 w6 ho6 hb6 hg6
        have HO6 := hid ho6
        clear ho6 hg6
        go_wp2
        go_roundg (m.length - (k + 1))
        case measure => have := HGK.out; omega
        case rel =>
          refine ⟨k + 1, L ++ [rowB l], rfl, by go_num, by omega, ?_, ?_, hb6, HNZ2.out⟩
          · rw [HT.out, List.map_append, ← HL.out]; rfl
          · have := HO6.out
            rw [List.length_append]
            simpa [strsV, HS.out] using this
    · obtain rfl : k = m.length := by omega
      rw [List.take_length] at HL HNZ
      rcases Nat.eq_zero_or_pos L.length with h0 | h0
      · obtain rfl : L = [] := List.eq_nil_of_length_eq_zero h0
        have hm0 : m = [] := List.eq_nil_of_length_eq_zero (by have := HLL.out; simpa using this.symm)
        obtain ⟨ad5, cap5, rfl⟩ := own_shape HOWN.out
        have Q2 := hid fun w => Tryd.strings_Join_none ad5 cap5 ⟨#[59, 32]⟩ w
        subst hm0
        go_wp2_with fail
        refine (Q2.out _).mono ?_
        rintro e w3 ⟨rfl, rfl⟩
        go_wp2
        go_ret2
        exact ⟨hbel, .inr ⟨HNZ.out, rfl⟩⟩
      · obtain ⟨g5, c5, rfl, _, _⟩ := own_nil_iff HOWN.out h0
        obtain ⟨h3, h4, h5⟩ := own_cellsV HOWN.out
        have hj : Lib.join ((L.map strOf).map (·.data.toList)) [59, 32] = matB m := by
          rw [join_eq, List.map_map]
          unfold matB
          rw [← HL.out]
          congr 1
          refine (List.map_congr_left fun x _ => ?_).trans (List.map_id L)
          rfl
        have q2 := (Tryd.strings_Join g5 0 c5 (L.map strOf) ⟨#[59, 32]⟩ wr (fun j x hx => by
          refine h5 j _ ?_
          unfold strsV
          rw [List.getElem?_map] at hx ⊢
          obtain ⟨y, hy, rfl⟩ := Option.map_eq_some_iff.1 hx
          rw [hy]; rfl) h3 (by simp; omega) (by simp; omega) (by show (Lib.join _ [59, 32]).length ≤ _; rw [hj]; omega)).mono (fun e w' ⟨he, hb⟩ => (⟨he.trans (congrArg (fun l : List UInt8 => Ending.returned (.string ⟨l.toArray⟩)) hj), hb⟩ : e = Ending.returned (.string (strOf (matB m))) ∧ Below wr.heap.size wr w'))
        rw [List.length_map] at q2
        have Q2 := hid q2
        clear h3 h4 h5 hj q2
        go_wp2_with fail
        refine Q2.out.mono ?_
        rintro e w3 ⟨rfl, hb3⟩
        go_wp2
        go_ret2
        exact ⟨hbel.trans (hb3.mono hbel.size), .inr ⟨HNZ.out, rfl⟩⟩

end Go.Proofs.YtjjidmgeladicaaDoor
