/- numeral's reader: zeros, next, natural, integer. -/
import Derived.Test.YtoijfckollafhaaGreatFromBase
namespace Go.Proofs.YtoijfckollafhaaGreat
open Go.RowKit

theorem grown_refl (w : World) (row : Option Nat) : w.grownBy w row := ⟨rfl, rfl, rfl, Nat.le_refl _, fun _ _ _ => rfl⟩
theorem grown_trans {a b c : World} {row : Option Nat} (h : a.grownBy b row) (k : b.grownBy c row) : a.grownBy c row :=
  ⟨k.os.trans h.os, k.tape.trans h.tape, k.output.trans h.output, Nat.le_trans h.size k.size, fun i hi hr => (k.block i (Nat.lt_of_lt_of_le hi h.size) hr).trans (h.block i hi hr)⟩
theorem grown_below {a b : World} {row : Option Nat} (h : Below a.heap.size a b) : a.grownBy b row := ⟨h.os, h.tape, h.output, h.size, fun i hi _ => h.block i hi⟩
theorem grown_set (w : World) (p : Addr) (v : Value) : w.grownBy (w.setCell p v) (some p.block) :=
  ⟨rfl, rfl, rfl, by simp [World.setCell], fun i _ hr => Below.heap_setCell _ _ _ _ (fun e => hr (by rw [e]))⟩
theorem below_grown {B : Nat} {a w w' : World} {g : Nat} (h : Below B a w) (hg : w.grownBy w' (some g)) (hB : B ≤ w.heap.size) (hr : B ≤ g) : Below B a w' :=
  h.grown hg hB (fun k hk => by cases hk; exact hr)
theorem nums_grown {k : IntKind} {lo hi g : Nat} {w w' : World} {v : Value} {xs : List Nat} (h : Nums k lo hi w v xs) (hg : w.grownBy w' (some g)) (h1 : hi ≤ g ∨ g < lo) (h2 : hi ≤ w.heap.size) : Nums k lo hi w' v xs :=
  h.keep fun b _ _ => hg.block b (by omega) (fun e => by cases e; omega)
theorem limbs_grown {lo hi g : Nat} {w w' : World} {v : Value} {xs : List Nat} (h : Limbs lo hi w v xs) (hg : w.grownBy w' (some g)) (h1 : hi ≤ g ∨ g < lo) (h2 : hi ≤ w.heap.size) : Limbs lo hi w' v xs :=
  h.keep fun b _ _ => hg.block b (by omega) (fun e => by cases e; omega)
theorem box_grown {g g' : Nat} {w w' : World} {T : TypeId} {cs : List Value} (h : BoxIs w g T cs) (hg : w.grownBy w' (some g')) (hne : g ≠ g') : BoxIs w' g T cs :=
  h.keep (hg.block g h.lt (fun e => by cases e; exact hne rfl))

/-- are all of them 0? -/
def allNought (L : List Nat) : Bool := L.all fun r => r == 48

/-- a kind's rune ahead is taken -/
def ahead (k : Nat) (L : List Nat) : Bool := match L with | [] => false | r :: _ => kindOf r == k
def behind (k : Nat) (L : List Nat) : List Nat := if ahead k L then L.tail else L

/-- the digits ahead, what is behind them -/
def isDg (r : Nat) : Bool := kindOf r == 1
def digs (L : List Nat) : List Nat := L.takeWhile isDg
def past (L : List Nat) : List Nat := L.dropWhile isDg

theorem isDg_iff (r : Nat) : isDg r = true ↔ 48 ≤ r ∧ r ≤ 57 := by
  unfold isDg kindOf isMinus isBar isGap isDigit
  constructor
  · intro h
    repeat' split at h
    all_goals simp_all
  · intro h
    have h1 : ∀ k, (k < 48 ∨ 57 < k) → (r == k) = false := by intro k hk; simp; omega
    simp only [h1 45 (by omega), h1 8722 (by omega), h1 47 (by omega), h1 8260 (by omega), h1 8725 (by omega), h1 32 (by omega), h1 9 (by omega), h1 160 (by omega), h1 8201 (by omega), Bool.or_self, Bool.false_eq_true, if_false]
    rw [if_neg (by omega), if_neg (by omega)]
    simp [h]

theorem worth_dg (r : Nat) (h : isDg r = true) : worth r = r - 48 ∧ worth r < 10 := by
  rw [isDg_iff] at h
  have hd : isDigit r = true := by simp [isDigit, h]
  unfold worth
  rw [if_pos hd]
  omega

theorem digs_split (L : List Nat) (k : Nat) (hk : k < L.length) (h : ∀ r, r ∈ L.take k → isDg r = true) (hn : isDg (L.getD k 0) = false) : digs L = L.take k ∧ past L = L.drop k := by
  have e : L = L.take k ++ L.drop k := (List.take_append_drop k L).symm
  have e2 : L.drop k = L.getD k 0 :: L.drop (k + 1) := by rw [List.drop_eq_getElem_cons hk]; simp [List.getD, hk]
  unfold digs past
  constructor
  · conv => lhs; rw [e, e2]
    rw [List.takeWhile_append_of_pos h, List.takeWhile_cons_of_neg (by rw [hn]; simp), List.append_nil]
  · conv => lhs; rw [e, e2]
    rw [List.dropWhile_append_of_pos h, List.dropWhile_cons_of_neg (by rw [hn]; simp), e2]

theorem digs_all (L : List Nat) (h : ∀ r, r ∈ L → isDg r = true) : digs L = L ∧ past L = [] := by
  unfold digs past
  have e : L = L ++ [] := (List.append_nil L).symm
  constructor
  · conv => lhs; rw [e]
    rw [List.takeWhile_append_of_pos h]; simp
  · conv => lhs; rw [e]
    rw [List.dropWhile_append_of_pos h]; simp

theorem grown_then {a b c : World} {row : Option Nat} (h : a.grownBy b row) (k : Below a.heap.size b c) : a.grownBy c row :=
  ⟨k.os.trans h.os, k.tape.trans h.tape, k.output.trans h.output, Nat.le_trans h.size k.size, fun i hi hr => (k.block i hi).trans (h.block i hi hr)⟩

/-- what an integer's text leaves: its minus, its digits, what is behind them -/
def neg1 (L : List Nat) : Bool := ahead 2 L
def num1 (L : List Nat) : List Nat := digs (behind 2 L)
def end1 (L : List Nat) : List Nat := past (behind 2 L)

end Go.Proofs.YtoijfckollafhaaGreat
