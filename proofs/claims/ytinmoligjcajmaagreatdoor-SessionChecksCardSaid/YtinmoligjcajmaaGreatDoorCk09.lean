/- simileref28: name, told, Roads, Road: told of trees. TEXT -/
import Derived.Test.YtinmoligjcajmaaGreatDoorCk08
import Derived.Test.YtinmoligjcajmaaGreatDoorCk01
import Derived.Deep.RegionLaw
set_option linter.all false
set_option maxRecDepth 20000
set_option maxHeartbeats 6400000
namespace Go.Proofs.YtinmoligjcajmaaGreatDoor
open Go.RowKit Go.Ev Go.Vl

def okB (c : UInt8) : Bool := letB c || (decide (48 ≤ c.toNat) && decide (c.toNat ≤ 57))
def nameL (s : Tx) : Bool := match s with
  | [] => false
  | c :: r => decide ((c :: r).length ≤ 20) && (letB c && (c :: r).all okB)
theorem drop_cons1 {α : Type} (l : List α) (k : Nat) (x : α) (h : l[k]? = some x) : l.drop k = x :: l.drop (k + 1) := by
  obtain ⟨hk, rfl⟩ := List.getElem?_eq_some_iff.1 h
  exact List.drop_eq_getElem_cons hk

set_option maxRecDepth 20000 in
set_option maxHeartbeats 1600000 in
theorem name28_v (s : Tx) (hl : s.length ≤ 1099511627776) : VCalls Tryz.prog 53 [vT s] (fun y => y = .bool (nameL s)) := by
  refine vcalls_enter czOk Tryz.func53 rfl rfl rfl rfl fun w0 => ?_
  unfold vT
  cases s with
  | nil =>
    repeat (first | refine wg rfl (sL (uL_len _)) ?_ | refine wv ?_ | refine wg rfl cT ?_ | refine wg rfl cF ?_ | refine wg rfl nT ?_ | refine wg rfl nF ?_ | refine wg rfl (sem_cmp rfl rfl rfl rfl (rfl) rfl) ?_ | refine wg rfl sB ?_ | refine wg rfl (sem_beq czOk rfl rfl rfl rfl (.inl ⟨rfl, rfl⟩) rfl) ?_ | refine wg rfl (sem_beq czOk rfl rfl rfl rfl (.inr ⟨rfl, rfl⟩) rfl) ?_ | refine wg rfl (sem_conv czOk rfl rfl rfl rfl (wr_u64 (by omega) (by omega)) rfl) ?_ | refine wg rfl (sem_conv czOk rfl rfl rfl rfl (wr_u32 (by omega) (by omega)) rfl) ?_ | refine wg rfl (sem_conv czOk rfl rfl rfl rfl (wr_i64 (by omega) (by omega)) rfl) ?_ | refine wg rfl (sem_tEq true rfl rfl rfl rfl rfl) ?_ | refine wx ?_ | refine rr_off rfl rfl rfl rfl rfl rfl rfl ?_ | refine wg rfl (sem_tLen czOk rfl rfl rfl rfl rfl rfl rfl rfl) ?_ | refine wz ?_)
    exact ⟨.inl rfl, _, rfl, rfl⟩
  | cons c r =>
    have hne : decide ((c :: r) = []) = false := rfl
    obtain ⟨s, hs⟩ : ∃ s, c :: r = s := ⟨_, rfl⟩
    have h0 : s[0]? = some c := by rw [← hs]; rfl
    have hn : nameL s = (decide (s.length ≤ 20) && (letB c && s.all okB)) := by rw [← hs]; rfl
    rw [hs] at hne hl ⊢
    rw [hn]
    by_cases h20 : s.length ≤ 20
    · rw [decide_eq_true h20]
      have q1 := letter_v c
      generalize letB c = b at *
      cases b with
      | false =>
        repeat (first | refine wg rfl (sL (uL_len _)) ?_ | refine wv ?_ | refine wg rfl cT ?_ | refine wg rfl cF ?_ | refine wg rfl nT ?_ | refine wg rfl nF ?_ | refine wg rfl (sem_cmp rfl rfl rfl rfl (rfl) rfl) ?_ | refine wg rfl sB ?_ | refine wg rfl (sem_beq czOk rfl rfl rfl rfl (.inl ⟨rfl, rfl⟩) rfl) ?_ | refine wg rfl (sem_beq czOk rfl rfl rfl rfl (.inr ⟨rfl, rfl⟩) rfl) ?_ | refine wg rfl (sem_conv czOk rfl rfl rfl rfl (wr_u64 (by omega) (by omega)) rfl) ?_ | refine wg rfl (sem_conv czOk rfl rfl rfl rfl (wr_u32 (by omega) (by omega)) rfl) ?_ | refine wg rfl (sem_conv czOk rfl rfl rfl rfl (wr_i64 (by omega) (by omega)) rfl) ?_ | refine wg rfl (sem_tEq false hne rfl rfl rfl rfl) ?_ | refine wg rfl (sem_tIx czOk 0 h0 rfl rfl rfl rfl rfl rfl) ?_ | refine wc q1 ?_ | refine wx ?_ | refine rr_off rfl rfl rfl rfl rfl rfl rfl ?_ | refine wg rfl (sem_tLen czOk rfl rfl rfl rfl rfl rfl rfl rfl) ?_ | refine wz ?_)
        exact ⟨.inl rfl, _, rfl, rfl⟩
      | true =>
        simp only [Bool.true_and]
        repeat (first | refine wg rfl (sL (uL_len _)) ?_ | refine wv ?_ | refine wg rfl cT ?_ | refine wg rfl cF ?_ | refine wg rfl nT ?_ | refine wg rfl nF ?_ | refine wg rfl (sem_cmp rfl rfl rfl rfl (rfl) rfl) ?_ | refine wg rfl sB ?_ | refine wg rfl (sem_beq czOk rfl rfl rfl rfl (.inl ⟨rfl, rfl⟩) rfl) ?_ | refine wg rfl (sem_beq czOk rfl rfl rfl rfl (.inr ⟨rfl, rfl⟩) rfl) ?_ | refine wg rfl (sem_conv czOk rfl rfl rfl rfl (wr_u64 (by omega) (by omega)) rfl) ?_ | refine wg rfl (sem_conv czOk rfl rfl rfl rfl (wr_u32 (by omega) (by omega)) rfl) ?_ | refine wg rfl (sem_conv czOk rfl rfl rfl rfl (wr_i64 (by omega) (by omega)) rfl) ?_ | refine wg rfl (sem_tEq false hne rfl rfl rfl rfl) ?_ | refine wg rfl (sem_tIx czOk 0 h0 rfl rfl rfl rfl rfl rfl) ?_ | refine wc q1 ?_ | refine wx ?_ | refine rr_off rfl rfl rfl rfl rfl rfl rfl ?_ | refine wg rfl (sem_tLen czOk rfl rfl rfl rfl rfl rfl rfl rfl) ?_ | refine wz ?_)
        clear q1 hne h0 hn
        refine vw_loop (fun k : Nat => [(0, some (.sv (.v (.str (tx s))))), (36, some (.sv (.v (.int .i64 (s.length : Nat))))), (38, some (.sv (.v (.int .i64 (k : Nat)))))])
          (fun k => k ≤ s.length ∧ (s.drop k).all okB = s.all okB) (fun k => s.length - k) 0 (fun _ => rfl) ⟨Nat.zero_le _, rfl⟩ ⟨rfl, rfl, rfl, trivial⟩ fun k hI => ?_
        obtain ⟨hk, hf⟩ := hI
        rcases Nat.lt_or_ge k s.length with hlt | hge
        · obtain ⟨x, hx⟩ : ∃ x, s[k]? = some x := ⟨_, List.getElem?_eq_getElem hlt⟩
          rw [drop_cons1 s k x hx, List.all_cons] at hf
          have q2 := letter_v x
          unfold okB at hf
          generalize letB x = lb at *
          cases lb with
          | true =>
            simp only [Bool.true_or, Bool.true_and] at hf
            repeat (first | refine wg rfl (sL (uL_len _)) ?_ | refine wv ?_ | refine wg rfl cT ?_ | refine wg rfl cF ?_ | refine wg rfl nT ?_ | refine wg rfl nF ?_ | refine wg rfl (sem_cmp rfl rfl rfl rfl (rfl) rfl) ?_ | refine wg rfl sB ?_ | refine wg rfl (sem_beq czOk rfl rfl rfl rfl (.inl ⟨rfl, rfl⟩) rfl) ?_ | refine wg rfl (sem_beq czOk rfl rfl rfl rfl (.inr ⟨rfl, rfl⟩) rfl) ?_ | refine wg rfl (sem_conv czOk rfl rfl rfl rfl (wr_u64 (by omega) (by omega)) rfl) ?_ | refine wg rfl (sem_conv czOk rfl rfl rfl rfl (wr_u32 (by omega) (by omega)) rfl) ?_ | refine wg rfl (sem_conv czOk rfl rfl rfl rfl (wr_i64 (by omega) (by omega)) rfl) ?_ | refine wg rfl (sem_tIx czOk k hx rfl rfl rfl rfl rfl rfl) ?_ | refine wc q2 ?_ | refine wx ?_ | refine rr_off rfl rfl rfl rfl rfl rfl rfl ?_ | refine wg rfl (sem_tLen czOk rfl rfl rfl rfl rfl rfl rfl rfl) ?_ | refine wz ?_)
            exact ⟨k + 1, ⟨hlt, hf⟩, by omega, rfl, rfl, rfl, trivial⟩
          | false =>
            simp only [Bool.false_or] at hf
            by_cases h1 : 48 ≤ x.toNat
            · by_cases h2 : x.toNat ≤ 57
              · simp only [h1, h2, decide_true, Bool.true_and] at hf
                repeat (first | refine wg rfl (sL (uL_len _)) ?_ | refine wv ?_ | refine wg rfl cT ?_ | refine wg rfl cF ?_ | refine wg rfl nT ?_ | refine wg rfl nF ?_ | refine wg rfl (sem_cmp rfl rfl rfl rfl (rfl) rfl) ?_ | refine wg rfl sB ?_ | refine wg rfl (sem_beq czOk rfl rfl rfl rfl (.inl ⟨rfl, rfl⟩) rfl) ?_ | refine wg rfl (sem_beq czOk rfl rfl rfl rfl (.inr ⟨rfl, rfl⟩) rfl) ?_ | refine wg rfl (sem_conv czOk rfl rfl rfl rfl (wr_u64 (by omega) (by omega)) rfl) ?_ | refine wg rfl (sem_conv czOk rfl rfl rfl rfl (wr_u32 (by omega) (by omega)) rfl) ?_ | refine wg rfl (sem_conv czOk rfl rfl rfl rfl (wr_i64 (by omega) (by omega)) rfl) ?_ | refine wg rfl (sem_tIx czOk k hx rfl rfl rfl rfl rfl rfl) ?_ | refine wc q2 ?_ | refine wx ?_ | refine rr_off rfl rfl rfl rfl rfl rfl rfl ?_ | refine wg rfl (sem_tLen czOk rfl rfl rfl rfl rfl rfl rfl rfl) ?_ | refine wz ?_)
                exact ⟨k + 1, ⟨hlt, hf⟩, by omega, rfl, rfl, rfl, trivial⟩
              · simp only [h1, h2, decide_true, decide_false, Bool.and_false, Bool.false_and] at hf
                repeat (first | refine wg rfl (sL (uL_len _)) ?_ | refine wv ?_ | refine wg rfl cT ?_ | refine wg rfl cF ?_ | refine wg rfl nT ?_ | refine wg rfl nF ?_ | refine wg rfl (sem_cmp rfl rfl rfl rfl (rfl) rfl) ?_ | refine wg rfl sB ?_ | refine wg rfl (sem_beq czOk rfl rfl rfl rfl (.inl ⟨rfl, rfl⟩) rfl) ?_ | refine wg rfl (sem_beq czOk rfl rfl rfl rfl (.inr ⟨rfl, rfl⟩) rfl) ?_ | refine wg rfl (sem_conv czOk rfl rfl rfl rfl (wr_u64 (by omega) (by omega)) rfl) ?_ | refine wg rfl (sem_conv czOk rfl rfl rfl rfl (wr_u32 (by omega) (by omega)) rfl) ?_ | refine wg rfl (sem_conv czOk rfl rfl rfl rfl (wr_i64 (by omega) (by omega)) rfl) ?_ | refine wg rfl (sem_tIx czOk k hx rfl rfl rfl rfl rfl rfl) ?_ | refine wc q2 ?_ | refine wx ?_ | refine rr_off rfl rfl rfl rfl rfl rfl rfl ?_ | refine wg rfl (sem_tLen czOk rfl rfl rfl rfl rfl rfl rfl rfl) ?_ | refine wz ?_)
                exact ⟨.inl rfl, _, rfl, congrArg V.bool hf⟩
            · simp only [h1, decide_false, Bool.false_and] at hf
              repeat (first | refine wg rfl (sL (uL_len _)) ?_ | refine wv ?_ | refine wg rfl cT ?_ | refine wg rfl cF ?_ | refine wg rfl nT ?_ | refine wg rfl nF ?_ | refine wg rfl (sem_cmp rfl rfl rfl rfl (rfl) rfl) ?_ | refine wg rfl sB ?_ | refine wg rfl (sem_beq czOk rfl rfl rfl rfl (.inl ⟨rfl, rfl⟩) rfl) ?_ | refine wg rfl (sem_beq czOk rfl rfl rfl rfl (.inr ⟨rfl, rfl⟩) rfl) ?_ | refine wg rfl (sem_conv czOk rfl rfl rfl rfl (wr_u64 (by omega) (by omega)) rfl) ?_ | refine wg rfl (sem_conv czOk rfl rfl rfl rfl (wr_u32 (by omega) (by omega)) rfl) ?_ | refine wg rfl (sem_conv czOk rfl rfl rfl rfl (wr_i64 (by omega) (by omega)) rfl) ?_ | refine wg rfl (sem_tIx czOk k hx rfl rfl rfl rfl rfl rfl) ?_ | refine wc q2 ?_ | refine wx ?_ | refine rr_off rfl rfl rfl rfl rfl rfl rfl ?_ | refine wg rfl (sem_tLen czOk rfl rfl rfl rfl rfl rfl rfl rfl) ?_ | refine wz ?_)
              exact ⟨.inl rfl, _, rfl, congrArg V.bool hf⟩
        · rw [List.drop_of_length_le hge] at hf
          repeat (first | refine wg rfl (sL (uL_len _)) ?_ | refine wv ?_ | refine wg rfl cT ?_ | refine wg rfl cF ?_ | refine wg rfl nT ?_ | refine wg rfl nF ?_ | refine wg rfl (sem_cmp rfl rfl rfl rfl (rfl) rfl) ?_ | refine wg rfl sB ?_ | refine wg rfl (sem_beq czOk rfl rfl rfl rfl (.inl ⟨rfl, rfl⟩) rfl) ?_ | refine wg rfl (sem_beq czOk rfl rfl rfl rfl (.inr ⟨rfl, rfl⟩) rfl) ?_ | refine wg rfl (sem_conv czOk rfl rfl rfl rfl (wr_u64 (by omega) (by omega)) rfl) ?_ | refine wg rfl (sem_conv czOk rfl rfl rfl rfl (wr_u32 (by omega) (by omega)) rfl) ?_ | refine wg rfl (sem_conv czOk rfl rfl rfl rfl (wr_i64 (by omega) (by omega)) rfl) ?_ | refine wx ?_ | refine rr_off rfl rfl rfl rfl rfl rfl rfl ?_ | refine wg rfl (sem_tLen czOk rfl rfl rfl rfl rfl rfl rfl rfl) ?_ | refine wz ?_)
          refine ⟨.inl rfl, _, rfl, ?_⟩
          rw [← hf]
          rfl
    · rw [decide_eq_false h20]
      repeat (first | refine wg rfl (sL (uL_len _)) ?_ | refine wv ?_ | refine wg rfl cT ?_ | refine wg rfl cF ?_ | refine wg rfl nT ?_ | refine wg rfl nF ?_ | refine wg rfl (sem_cmp rfl rfl rfl rfl (rfl) rfl) ?_ | refine wg rfl sB ?_ | refine wg rfl (sem_beq czOk rfl rfl rfl rfl (.inl ⟨rfl, rfl⟩) rfl) ?_ | refine wg rfl (sem_beq czOk rfl rfl rfl rfl (.inr ⟨rfl, rfl⟩) rfl) ?_ | refine wg rfl (sem_conv czOk rfl rfl rfl rfl (wr_u64 (by omega) (by omega)) rfl) ?_ | refine wg rfl (sem_conv czOk rfl rfl rfl rfl (wr_u32 (by omega) (by omega)) rfl) ?_ | refine wg rfl (sem_conv czOk rfl rfl rfl rfl (wr_i64 (by omega) (by omega)) rfl) ?_ | refine wg rfl (sem_tEq false hne rfl rfl rfl rfl) ?_ | refine wx ?_ | refine rr_off rfl rfl rfl rfl rfl rfl rfl ?_ | refine wg rfl (sem_tLen czOk rfl rfl rfl rfl rfl rfl rfl rfl) ?_ | refine wz ?_)
      exact ⟨.inl rfl, _, rfl, rfl⟩

abbrev Lets := List (Tx × Tx)
def letC (x : Tx × Tx) : List V := [vT x.1, vT x.2]
def vLets (L : Lets) : V := .list (L.map letC)
def toldL (L : Lets) (n : Tx) : Tx × Bool := match L.reverse.find? (fun x => x.1 == n) with
  | some x => (x.2, true)
  | none => ([], false)
theorem lets_len (L : Lets) : (L.map letC).length = L.length := List.length_map ..
theorem lets_at (L : Lets) (j : Nat) (x : Tx × Tx) (h : L[j]? = some x) : (L.map letC)[j]? = some (letC x) := by rw [List.getElem?_map, h]; rfl
theorem take_succ_rev {α : Type} (l : List α) (k : Nat) (x : α) (h : l[k]? = some x) : (l.take (k + 1)).reverse = x :: (l.take k).reverse := by
  rw [List.take_add_one, h]; simp

set_option maxRecDepth 20000 in
set_option maxHeartbeats 1600000 in
theorem told28_v (L : Lets) (n : Tx) (hl : L.length ≤ 1099511627776) : VCalls Tryz.prog 99 [vLets L, vT n] (fun y => y = .tup [vT (toldL L n).1, .bool (toldL L n).2]) := by
  refine vcalls_enter czOk Tryz.func99 rfl rfl rfl rfl fun w0 => ?_
  unfold vT vLets
  repeat (first | refine wg rfl (sL (lets_len L)) ?_ | refine wg rfl (sL (uL_len _)) ?_ | refine wv ?_ | refine wg rfl cT ?_ | refine wg rfl cF ?_ | refine wg rfl nT ?_ | refine wg rfl nF ?_ | refine wg rfl (sem_cmp rfl rfl rfl rfl (rfl) rfl) ?_ | refine wg rfl sB ?_ | refine wg rfl (sem_beq czOk rfl rfl rfl rfl (.inl ⟨rfl, rfl⟩) rfl) ?_ | refine wg rfl (sem_beq czOk rfl rfl rfl rfl (.inr ⟨rfl, rfl⟩) rfl) ?_ | refine wg rfl (sem_conv czOk rfl rfl rfl rfl (wr_u64 (by omega) (by omega)) rfl) ?_ | refine wg rfl (sem_conv czOk rfl rfl rfl rfl (wr_u32 (by omega) (by omega)) rfl) ?_ | refine wg rfl (sem_conv czOk rfl rfl rfl rfl (wr_i64 (by omega) (by omega)) rfl) ?_ | refine wx ?_ | refine rr_off rfl rfl rfl rfl rfl rfl rfl ?_ | refine wg rfl (sem_tLen czOk rfl rfl rfl rfl rfl rfl rfl rfl) ?_ | refine wz ?_)
  refine vw_loop (fun k : Nat => [(0, some (.sv (.v (.list (L.map letC))))), (2, some (.sv (.v (.str (tx n))))), (12, some (.sv (.v (.int .i64 ((k : Nat) - 1)))))])
    (fun k => k ≤ L.length ∧ (L.take k).reverse.find? (fun x => x.1 == n) = L.reverse.find? (fun x => x.1 == n)) (fun k => k) L.length (fun _ => rfl) ⟨Nat.le_refl _, by rw [List.take_length]⟩ ⟨rfl, rfl, rfl, trivial⟩ fun k hI => ?_
  obtain ⟨hk, hf⟩ := hI
  cases k with
  | zero =>
    repeat (first | refine wg rfl (sL (uL_len _)) ?_ | refine wv ?_ | refine wg rfl cT ?_ | refine wg rfl cF ?_ | refine wg rfl nT ?_ | refine wg rfl nF ?_ | refine wg rfl (sem_cmp rfl rfl rfl rfl (rfl) rfl) ?_ | refine wg rfl sB ?_ | refine wg rfl (sem_beq czOk rfl rfl rfl rfl (.inl ⟨rfl, rfl⟩) rfl) ?_ | refine wg rfl (sem_beq czOk rfl rfl rfl rfl (.inr ⟨rfl, rfl⟩) rfl) ?_ | refine wg rfl (sem_conv czOk rfl rfl rfl rfl (wr_u64 (by omega) (by omega)) rfl) ?_ | refine wg rfl (sem_conv czOk rfl rfl rfl rfl (wr_u32 (by omega) (by omega)) rfl) ?_ | refine wg rfl (sem_conv czOk rfl rfl rfl rfl (wr_i64 (by omega) (by omega)) rfl) ?_ | refine wx ?_ | refine rr_off rfl rfl rfl rfl rfl rfl rfl ?_ | refine wg rfl (sem_tLen czOk rfl rfl rfl rfl rfl rfl rfl rfl) ?_ | refine wz ?_)
    refine ⟨.inl rfl, _, rfl, ?_⟩
    unfold toldL
    rw [← hf]
    rfl
  | succ k =>
    obtain ⟨x, hx⟩ : ∃ x, L[k]? = some x := ⟨_, List.getElem?_eq_getElem hk⟩
    have hg := lets_at L k x hx
    rw [take_succ_rev L k x hx, List.find?_cons] at hf
    obtain ⟨a, b⟩ := x
    dsimp only at hf
    by_cases hn : a = n
    · have hd : decide (a = n) = true := decide_eq_true hn
      rw [show (a == n) = true from beq_iff_eq.2 hn] at hf
      dsimp only at hf
      repeat (first | refine wg rfl (sL (uL_len _)) ?_ | refine wv ?_ | refine wg rfl cT ?_ | refine wg rfl cF ?_ | refine wg rfl nT ?_ | refine wg rfl nF ?_ | refine wg rfl (sem_cmp rfl rfl rfl rfl (rfl) rfl) ?_ | refine wg rfl sB ?_ | refine wg rfl (sem_beq czOk rfl rfl rfl rfl (.inl ⟨rfl, rfl⟩) rfl) ?_ | refine wg rfl (sem_beq czOk rfl rfl rfl rfl (.inr ⟨rfl, rfl⟩) rfl) ?_ | refine wg rfl (sem_conv czOk rfl rfl rfl rfl (wr_u64 (by omega) (by omega)) rfl) ?_ | refine wg rfl (sem_conv czOk rfl rfl rfl rfl (wr_u32 (by omega) (by omega)) rfl) ?_ | refine wg rfl (sem_conv czOk rfl rfl rfl rfl (wr_i64 (by omega) (by omega)) rfl) ?_ | refine wg rfl (sem_ixE czOk rfl rfl rfl (i := k) (by omega) rfl rfl hg rfl rfl) ?_ | refine wg rfl (sem_tEq true hd rfl rfl rfl rfl) ?_ | refine wx ?_ | refine rr_off rfl rfl rfl rfl rfl rfl rfl ?_ | refine wg rfl (sem_tLen czOk rfl rfl rfl rfl rfl rfl rfl rfl) ?_ | refine wz ?_)
      refine ⟨.inl rfl, _, rfl, ?_⟩
      unfold toldL
      rw [← hf]
      rfl
    · have hd : decide (a = n) = false := decide_eq_false hn
      rw [show (a == n) = false from beq_eq_false_iff_ne.2 hn] at hf
      dsimp only at hf
      repeat (first | refine wg rfl (sL (uL_len _)) ?_ | refine wv ?_ | refine wg rfl cT ?_ | refine wg rfl cF ?_ | refine wg rfl nT ?_ | refine wg rfl nF ?_ | refine wg rfl (sem_cmp rfl rfl rfl rfl (rfl) rfl) ?_ | refine wg rfl sB ?_ | refine wg rfl (sem_beq czOk rfl rfl rfl rfl (.inl ⟨rfl, rfl⟩) rfl) ?_ | refine wg rfl (sem_beq czOk rfl rfl rfl rfl (.inr ⟨rfl, rfl⟩) rfl) ?_ | refine wg rfl (sem_conv czOk rfl rfl rfl rfl (wr_u64 (by omega) (by omega)) rfl) ?_ | refine wg rfl (sem_conv czOk rfl rfl rfl rfl (wr_u32 (by omega) (by omega)) rfl) ?_ | refine wg rfl (sem_conv czOk rfl rfl rfl rfl (wr_i64 (by omega) (by omega)) rfl) ?_ | refine wg rfl (sem_ixE czOk rfl rfl rfl (i := k) (by omega) rfl rfl hg rfl rfl) ?_ | refine wg rfl (sem_tEq false hd rfl rfl rfl rfl) ?_ | refine wx ?_ | refine rr_off rfl rfl rfl rfl rfl rfl rfl ?_ | refine wg rfl (sem_tLen czOk rfl rfl rfl rfl rfl rfl rfl rfl) ?_ | refine wz ?_)
      exact ⟨k, ⟨by omega, hf⟩, by omega, rfl, rfl, by simp; rfl, trivial⟩

def roadsT : List Tx := [[98, 101, 114, 107, 111, 119, 105, 116, 122], [105, 110, 116, 101, 114, 112, 111, 108, 97, 116, 101, 100], [108, 101, 118, 101, 114, 114, 105, 101, 114], [115, 109, 105, 116, 104], [102, 97, 99, 116, 111, 114, 115], [109, 111, 100, 117, 108, 97, 114]]
set_option maxRecDepth 20000 in
theorem roads28_v : VCalls Tryz.prog 98 [] (fun y => y = .list (roadsT.map fun x => [vT x])) := by
  refine vcalls_enter czOk Tryz.func98 rfl rfl rfl rfl fun w0 => ?_
  repeat (first | refine wg rfl (sL (uL_len _)) ?_ | refine wv ?_ | refine wg rfl cT ?_ | refine wg rfl cF ?_ | refine wg rfl nT ?_ | refine wg rfl nF ?_ | refine wg rfl (sem_cmp rfl rfl rfl rfl (rfl) rfl) ?_ | refine wg rfl sB ?_ | refine wg rfl (sem_beq czOk rfl rfl rfl rfl (.inl ⟨rfl, rfl⟩) rfl) ?_ | refine wg rfl (sem_beq czOk rfl rfl rfl rfl (.inr ⟨rfl, rfl⟩) rfl) ?_ | refine wg rfl (sem_conv czOk rfl rfl rfl rfl (wr_u64 (by omega) (by omega)) rfl) ?_ | refine wg rfl (sem_conv czOk rfl rfl rfl rfl (wr_u32 (by omega) (by omega)) rfl) ?_ | refine wg rfl (sem_conv czOk rfl rfl rfl rfl (wr_i64 (by omega) (by omega)) rfl) ?_ | refine wx ?_ | refine rr_off rfl rfl rfl rfl rfl rfl rfl ?_ | refine wg rfl (sem_tLen czOk rfl rfl rfl rfl rfl rfl rfl rfl) ?_ | refine wz ?_)
  exact ⟨.inl rfl, _, rfl, rfl⟩

def roadB (n : Tx) : Bool := roadsT.any (· == n)
set_option maxRecDepth 20000 in
set_option maxHeartbeats 1600000 in
theorem road28_v (n : Tx) : VCalls Tryz.prog 54 [vT n] (fun y => y = .bool (roadB n)) := by
  refine vcalls_enter czOk Tryz.func54 rfl rfl rfl rfl fun w0 => ?_
  have q1 := roads28_v
  have hlen : (roadsT.map fun x => [vT x]).length = 6 := rfl
  have hat : ∀ k x, roadsT[k]? = some x → (roadsT.map fun x => [vT x])[k]? = some [vT x] := fun k x h => by rw [List.getElem?_map, h]; rfl
  have hl6 : roadsT.length = 6 := rfl
  unfold roadB
  generalize roadsT = R at *
  unfold vT at *
  repeat (first | refine wg rfl (sL hlen) ?_ | refine wg rfl (sL (uL_len _)) ?_ | refine wv ?_ | refine wc q1 ?_ | refine wg rfl cT ?_ | refine wg rfl cF ?_ | refine wg rfl nT ?_ | refine wg rfl nF ?_ | refine wg rfl (sem_cmp rfl rfl rfl rfl (rfl) rfl) ?_ | refine wg rfl sB ?_ | refine wg rfl (sem_beq czOk rfl rfl rfl rfl (.inl ⟨rfl, rfl⟩) rfl) ?_ | refine wg rfl (sem_beq czOk rfl rfl rfl rfl (.inr ⟨rfl, rfl⟩) rfl) ?_ | refine wg rfl (sem_conv czOk rfl rfl rfl rfl (wr_u64 (by omega) (by omega)) rfl) ?_ | refine wg rfl (sem_conv czOk rfl rfl rfl rfl (wr_u32 (by omega) (by omega)) rfl) ?_ | refine wg rfl (sem_conv czOk rfl rfl rfl rfl (wr_i64 (by omega) (by omega)) rfl) ?_ | refine wx ?_ | refine rr_off rfl rfl rfl rfl rfl rfl rfl ?_ | refine wg rfl (sem_tLen czOk rfl rfl rfl rfl rfl rfl rfl rfl) ?_ | refine wz ?_)
  refine vw_loop (fun k : Nat => [(0, some (.sv (.v (.str (tx n))))), (10, some (.sv (.v (.list (R.map fun x => [V.str (tx x)]))))), (12, some (.sv (.v (.int .i64 6)))), (14, some (.sv (.v (.int .i64 (k : Nat)))))])
    (fun k => k ≤ R.length ∧ (R.drop k).any (· == n) = R.any (· == n)) (fun k => R.length - k) 0 (fun _ => rfl) ⟨Nat.zero_le _, rfl⟩ ⟨rfl, rfl, rfl, rfl, trivial⟩ fun k hI => ?_
  obtain ⟨hk, hf⟩ := hI
  rcases Nat.lt_or_ge k R.length with hlt | hge
  · obtain ⟨x, hx⟩ : ∃ x, R[k]? = some x := ⟨_, List.getElem?_eq_getElem hlt⟩
    have hg := hat k x hx
    rw [drop_cons1 R k x hx, List.any_cons] at hf
    by_cases hn : x = n
    · have hd : decide (x = n) = true := decide_eq_true hn
      rw [show (x == n) = true from beq_iff_eq.2 hn, Bool.true_or] at hf
      repeat (first | refine wg rfl (sL (uL_len _)) ?_ | refine wv ?_ | refine wg rfl cT ?_ | refine wg rfl cF ?_ | refine wg rfl nT ?_ | refine wg rfl nF ?_ | refine wg rfl (sem_cmp rfl rfl rfl rfl (rfl) rfl) ?_ | refine wg rfl sB ?_ | refine wg rfl (sem_beq czOk rfl rfl rfl rfl (.inl ⟨rfl, rfl⟩) rfl) ?_ | refine wg rfl (sem_beq czOk rfl rfl rfl rfl (.inr ⟨rfl, rfl⟩) rfl) ?_ | refine wg rfl (sem_conv czOk rfl rfl rfl rfl (wr_u64 (by omega) (by omega)) rfl) ?_ | refine wg rfl (sem_conv czOk rfl rfl rfl rfl (wr_u32 (by omega) (by omega)) rfl) ?_ | refine wg rfl (sem_conv czOk rfl rfl rfl rfl (wr_i64 (by omega) (by omega)) rfl) ?_ | refine wg rfl (sX k hg) ?_ | refine wg rfl (sem_tEq true hd rfl rfl rfl rfl) ?_ | refine wx ?_ | refine rr_off rfl rfl rfl rfl rfl rfl rfl ?_ | refine wg rfl (sem_tLen czOk rfl rfl rfl rfl rfl rfl rfl rfl) ?_ | refine wz ?_)
      refine ⟨.inl rfl, _, rfl, ?_⟩
      rw [← hf]
    · have hd : decide (x = n) = false := decide_eq_false hn
      rw [show (x == n) = false from beq_eq_false_iff_ne.2 hn, Bool.false_or] at hf
      repeat (first | refine wg rfl (sL (uL_len _)) ?_ | refine wv ?_ | refine wg rfl cT ?_ | refine wg rfl cF ?_ | refine wg rfl nT ?_ | refine wg rfl nF ?_ | refine wg rfl (sem_cmp rfl rfl rfl rfl (rfl) rfl) ?_ | refine wg rfl sB ?_ | refine wg rfl (sem_beq czOk rfl rfl rfl rfl (.inl ⟨rfl, rfl⟩) rfl) ?_ | refine wg rfl (sem_beq czOk rfl rfl rfl rfl (.inr ⟨rfl, rfl⟩) rfl) ?_ | refine wg rfl (sem_conv czOk rfl rfl rfl rfl (wr_u64 (by omega) (by omega)) rfl) ?_ | refine wg rfl (sem_conv czOk rfl rfl rfl rfl (wr_u32 (by omega) (by omega)) rfl) ?_ | refine wg rfl (sem_conv czOk rfl rfl rfl rfl (wr_i64 (by omega) (by omega)) rfl) ?_ | refine wg rfl (sX k hg) ?_ | refine wg rfl (sem_tEq false hd rfl rfl rfl rfl) ?_ | refine wx ?_ | refine rr_off rfl rfl rfl rfl rfl rfl rfl ?_ | refine wg rfl (sem_tLen czOk rfl rfl rfl rfl rfl rfl rfl rfl) ?_ | refine wz ?_)
      exact ⟨k + 1, ⟨hlt, hf⟩, by omega, rfl, rfl, rfl, rfl, trivial⟩
  · rw [List.drop_of_length_le hge] at hf
    repeat (first | refine wg rfl (sL (uL_len _)) ?_ | refine wv ?_ | refine wg rfl cT ?_ | refine wg rfl cF ?_ | refine wg rfl nT ?_ | refine wg rfl nF ?_ | refine wg rfl (sem_cmp rfl rfl rfl rfl (rfl) rfl) ?_ | refine wg rfl sB ?_ | refine wg rfl (sem_beq czOk rfl rfl rfl rfl (.inl ⟨rfl, rfl⟩) rfl) ?_ | refine wg rfl (sem_beq czOk rfl rfl rfl rfl (.inr ⟨rfl, rfl⟩) rfl) ?_ | refine wg rfl (sem_conv czOk rfl rfl rfl rfl (wr_u64 (by omega) (by omega)) rfl) ?_ | refine wg rfl (sem_conv czOk rfl rfl rfl rfl (wr_u32 (by omega) (by omega)) rfl) ?_ | refine wg rfl (sem_conv czOk rfl rfl rfl rfl (wr_i64 (by omega) (by omega)) rfl) ?_ | refine wx ?_ | refine rr_off rfl rfl rfl rfl rfl rfl rfl ?_ | refine wg rfl (sem_tLen czOk rfl rfl rfl rfl rfl rfl rfl rfl) ?_ | refine wz ?_)
    refine ⟨.inl rfl, _, rfl, ?_⟩
    rw [← hf]
    rfl
end Go.Proofs.YtinmoligjcajmaaGreatDoor
/- simileref28.says: does a line say something? -/
namespace Go.Proofs.YtinmoligjcajmaaGreatDoor
open Go.RowKit

/-- a text with plain runes, as bytes -/
def plainB (s : ByteArray) : List UInt8 := encB ((runesOf s).map plainR)
def saysB (s : ByteArray) : Bool := !(s.data.toList.head? == some 35) && (plainB s).any (fun c => !(c == 32))

theorem get_bang (s : ByteArray) (i : Nat) (c : UInt8) (h : s.data.toList[i]? = some c) : s.get! i = c := by
  rcases s with ⟨a⟩
  show a[i]! = c
  have hl := (List.getElem?_eq_some_iff.1 h)
  obtain ⟨h1, h2⟩ := hl
  have h3 : i < a.size := by simpa using h1
  rw [getElem!_pos a i h3, ← h2]
  simp
theorem dec_ascii (s : ByteArray) (i : Nat) (c : UInt8) (h : s.data.toList[i]? = some c) (hc : c.toNat < 128) : Utf8.decode s i = (c.toNat, 1) := by
  have hg := get_bang s i c h
  simp only [Utf8.decode, Nat.add_zero, hg]
  rw [if_pos hc]
theorem dec_high (s : ByteArray) (i : Nat) (c : UInt8) (h : s.data.toList[i]? = some c) (hc : ¬ c.toNat < 128) : 128 ≤ (Utf8.decode s i).1 := by
  have hg := get_bang s i c h
  simp only [Utf8.decode, Nat.add_zero, hg]
  rw [if_neg hc]
  repeat' split
  all_goals (try simp only [Bool.and_eq_true, decide_eq_true_eq] at *); all_goals (try simp only [Utf8.runeError]); all_goals omega
/-- has a text a rune that is no blank? -/
theorem any_runes (s : ByteArray) : ∀ (n pos : Nat), s.size - pos ≤ n → ((runesAt s pos).any fun r => !(r == 32)) = ((s.data.toList.drop pos).any fun c => !(c == 32)) := by
  intro n
  induction n with
  | zero =>
    intro pos h
    rw [runesAt_end s pos (by omega), List.drop_eq_nil_of_le (by simp only [Array.length_toList]; show s.size ≤ pos; omega)]
    rfl
  | succ n ih =>
    intro pos h
    by_cases hp : pos < s.size
    · have hlt : pos < s.data.toList.length := by simp only [Array.length_toList]; exact hp
      obtain ⟨c, hc⟩ : ∃ c, s.data.toList[pos]? = some c := ⟨_, List.getElem?_eq_getElem hlt⟩
      rw [runesAt_step s pos hp, List.any_cons, drop_cons1 _ _ _ hc, List.any_cons]
      by_cases h128 : c.toNat < 128
      · rw [dec_ascii s pos c hc h128]
        dsimp only
        rw [ih (pos + 1) (by omega)]
        congr 1
        by_cases h32 : c.toNat = 32
        · rw [h32, show c = 32 from UInt8.toNat_inj.1 h32]; rfl
        · rw [u8_ne (c := 32) h32]
          simpa using h32
      · have hd := dec_high s pos c hc h128
        have h1 : (!((Utf8.decode s pos).1 == 32)) = true := by simp; omega
        have h2 : (!(c == 32)) = true := by rw [u8_ne (c := 32) (by show c.toNat ≠ 32; omega)]; rfl
        rw [h1, h2]
        rfl
    · rw [runesAt_end s pos hp, List.drop_eq_nil_of_le (by simp only [Array.length_toList]; show s.size ≤ pos; omega)]
      rfl

theorem size0 (s : ByteArray) (h : s.size = 0) : s = ⟨#[]⟩ := by
  apply ByteArray.ext
  exact Array.eq_empty_of_size_eq_zero h
theorem no35 (s : ByteArray) (h : 0 < s.size) : (s.data.toList.head? == some 35) = (((s[0].toNat : Nat) : Int) == 35) := by
  rcases s with ⟨⟨l⟩⟩
  cases l with
  | nil => exact absurd h (Nat.lt_irrefl 0)
  | cons a l =>
    show (some a == some 35) = (((a.toNat : Nat) : Int) == 35)
    by_cases ha : a = 35
    · subst ha; rfl
    · have h1 : a.toNat ≠ 35 := fun e => ha (UInt8.toNat_inj.1 e)
      have h2 : (some a == some 35) = false := by simp [ha]
      rw [h2]
      symm
      simp only [beq_eq_false_iff_ne, ne_eq]
      omega
theorem nil_of (s : ByteArray) (h : ¬ 0 < s.size) : s.toList = [] := by
  rw [ByteArray.toList_eq, size0 s (by omega)]
theorem not_nil (s : ByteArray) (h : 0 < s.size) : s.toList.isEmpty = false := by
  rw [ByteArray.toList_eq]
  have : 0 < s.data.toList.length := by simp only [Array.length_toList]; exact h
  cases hl : s.data.toList with
  | nil => rw [hl] at this; exact absurd this (Nat.lt_irrefl 0)
  | cons a l => rfl
theorem nil35 (s : ByteArray) (h : s.toList = []) : (s.data.toList.head? == some 35) = false := by
  rw [ByteArray.toList_eq] at h
  rw [h]
  rfl
theorem plain_len (s : ByteArray) : (plainB s).length ≤ 4 * s.size := by
  unfold plainB
  have h1 := encB_len ((runesOf s).map plainR)
  have h2 := runesAt_len s 0
  have h3 : (runesOf s).length = (runesAt s 0).length := rfl
  simp only [List.length_map] at h1
  omega

set_option maxHeartbeats 1600000 in
theorem says28_any (s : ByteArray) (w : World) (hs : s.size ≤ 100000000) :
    Calls Tryz.prog 26 #[.string s] w fun e w' => Below w.heap.size w w' ∧ e = .returned (.bool (saysB s)) := by
  obtain ⟨T, hT⟩ : ∃ T, saysB s = T := ⟨_, rfl⟩
  have hTu := hT
  unfold saysB at hTu
  rw [hT]
  clear hT
  have Q1 := hid (plain02_any s w (by omega))
  obtain ⟨p, hp⟩ : ∃ p, txt ((runesOf s).map plainR) = p := ⟨_, rfl⟩
  have hany : (plainB s).any (fun c => !(c == 32)) = ((runesAt p 0).any fun r => !(r == 32)) := by
    rw [any_runes p _ 0 (Nat.le_refl _), List.drop_zero, ← hp]
    simp [txt, plainB]
  rw [hp] at Q1
  rw [hany] at hTu
  clear hany hp
  have HT := hid hTu
  clear hTu
  go_enter Tryz.func26, Tryz.ntmps26
  go_wp2_with fail
  rotate_left 3
  · have h1 : s.toList ≠ [] := by assumption
    have h2 : ¬ 0 < s.size := by assumption
    exact absurd (nil_of s h2) h1
  rotate_left 1
  · have h9 : T = false := by
      have := HT.out
      have h3 : (!s.toList.isEmpty) = true ∧ (((s[0].toNat : Nat) : Int) == 35) = true := by assumption
      rw [no35 s (by assumption), h3.2] at this
      rw [← this]; rfl
    rw [h9]
    go_ret
    exact ⟨Below.refl _ _, rfl⟩
  all_goals (have HA : Hid (T = ((runesAt p 0).any fun r => !(r == 32))) := hid (by
    have := HT.out
    first
    | rw [nil35 s (by assumption)] at this; rw [← this]; rfl
    | (have h3 : (!s.toList.isEmpty) = false ∨ (((s[0].toNat : Nat) : Int) == 35) = false := by assumption
       rw [no35 s (by assumption), h3.resolve_left (by rw [not_nil s (by assumption)]; exact fun h => nomatch h)] at this
       rw [← this]; rfl)))
  all_goals refine Q1.out.mono ?_
  all_goals rintro e w1 ⟨hb1, rfl⟩
  all_goals clear HT Q1
  all_goals go_wp2
  all_goals (
    have hk0 := World.iter_heap w1 p 0
    have hb2 : Below w.heap.size w (w1.iter p 0) := hb1.alloc hb1.size _
    obtain ⟨kb, hkk⟩ : ∃ kb, w1.heap.size = kb := ⟨_, rfl⟩
    obtain ⟨w2, hww⟩ : ∃ w2, w1.iter p 0 = w2 := ⟨_, rfl⟩
    have hkb : w.heap.size ≤ kb := by rw [← hkk]; exact hb1.size
    rw [hkk] at hk0 ⊢
    rw [hww] at hk0 hb2 ⊢
    clear hkk hww hb1
    go_loopg [] p.size (fun gk wr => ∃ (pos : Nat), gk = p.size - pos ∧ wr.heap[kb]? = some (.stringIter p pos) ∧
        Below w.heap.size w wr ∧ T = ((runesAt p pos).any fun r => !(r == 32)))
    case atStart => exact ⟨0, rfl, hk0, hb2, HA.out⟩
    case round =>
      obtain ⟨pos, hgk, hk, hbel, hru⟩ := hrel
      have HRU := hid hru
      have HGK := hid hgk
      clear hru hgk hk0 hb2 HA
      by_cases hp : pos < p.size
      · have hnx := fun ty => Lib.run_next_any_at (P := Tryz.prog) wr kb p pos ty hk hp
        have hw := decode_width p pos
        have hst := runesAt_step p pos hp
        obtain ⟨rn, hrn⟩ : ∃ rn, (Utf8.decode p pos).1 = rn := ⟨_, rfl⟩
        obtain ⟨wd, hwd⟩ : ∃ wd, (Utf8.decode p pos).2 = wd := ⟨_, rfl⟩
        rw [hrn, hwd] at hst hnx
        rw [hwd] at hw
        have hk2 := Lib.iterAt_heap wr kb p pos (pos + wd) hk
        have hbel2 := Lib.below_iterAt hbel hkb p (pos + wd)
        have HST := hid hst
        have HK := hid hk2
        clear hst hrn hwd hk2 hk hbel
        by_cases h32 : rn = 32
        · subst h32
          go_wp2
          go_roundg (p.size - (pos + wd))
          case measure => have := HGK.out; omega
          case rel =>
            refine ⟨pos + wd, rfl, HK.out, hbel2, ?_⟩
            rw [HRU.out, HST.out]; rfl
        · have h33 : T = true := by
            rw [HRU.out, HST.out, List.any_cons, beq_eq_false_iff_ne.2 h32]; rfl
          have h34 : ¬ ((rn : Int) = 32) := by omega
          go_wp2
          rw [h33]
          go_ret
          exact ⟨hbel2, rfl⟩
      · have hnx := fun ty => Lib.run_next_end_at (P := Tryz.prog) wr kb p pos ty hk hp
        have he := runesAt_end p pos hp
        have h33 : T = false := by rw [HRU.out, he]; rfl
        go_wp2
        rw [h33]
        go_ret
        exact ⟨hbel, rfl⟩)
end Go.Proofs.YtinmoligjcajmaaGreatDoor
/- simileref28.split: told of trees. TEXT -/
namespace Go.Proofs.YtinmoligjcajmaaGreatDoor
open Go.RowKit Go.Ev Go.Vl

def splL (at' : Nat) (cur : Tx) : Tx → List (Nat × Tx)
  | [] => if cur = [] then [] else [(at', cur)]
  | c :: l => if c.toNat = 10 then (at', cur) :: splL (at' + 1) [] l else splL at' (cur ++ [c]) l
def lineC (x : Nat × Tx) : List V := [.int .i64 (x.1 : Nat), vT x.2]
theorem seg_snoc (s : Tx) (f k : Nat) (x : UInt8) (h : s[k]? = some x) (hf : f ≤ k) : (s.take (k + 1)).drop f = (s.take k).drop f ++ [x] := by
  rw [List.take_add_one, h, List.drop_append_of_le_length (by have := (List.getElem?_eq_some_iff.1 h).1; simp; omega)]
  rfl
theorem lineC_one (x : Nat × Tx) : ∀ e ∈ [lineC x], e.length = 2 := by intro e he; simp at he; subst he; rfl
theorem lines_len (l : List (Nat × Tx)) : (l.map lineC).length = l.length := List.length_map ..

set_option maxRecDepth 20000 in
set_option maxHeartbeats 3200000 in
theorem split28_v (s : Tx) (hl : s.length ≤ 1048576) : VCalls Tryz.prog 25 [vT s] (fun y => y = .list ((splL 1 [] s).map lineC)) := by
  refine vcalls_enter czOk Tryz.func25 rfl rfl rfl rfl fun w0 => ?_
  unfold vT
  repeat (first | refine wg rfl (sL (uL_len _)) ?_ | refine wv ?_ | refine wg rfl cT ?_ | refine wg rfl cF ?_ | refine wg rfl nT ?_ | refine wg rfl nF ?_ | refine wg rfl (sem_cmp rfl rfl rfl rfl (rfl) rfl) ?_ | refine wg rfl sB ?_ | refine wg rfl (sem_beq czOk rfl rfl rfl rfl (.inl ⟨rfl, rfl⟩) rfl) ?_ | refine wg rfl (sem_beq czOk rfl rfl rfl rfl (.inr ⟨rfl, rfl⟩) rfl) ?_ | refine wg rfl (sem_conv czOk rfl rfl rfl rfl (wr_u64 (by omega) (by omega)) rfl) ?_ | refine wg rfl (sem_conv czOk rfl rfl rfl rfl (wr_u32 (by omega) (by omega)) rfl) ?_ | refine wg rfl (sem_conv czOk rfl rfl rfl rfl (wr_i64 (by omega) (by omega)) rfl) ?_ | refine wx ?_ | refine rr_off rfl rfl rfl rfl rfl rfl rfl ?_ | refine wg rfl (sem_tLen czOk rfl rfl rfl rfl rfl rfl rfl rfl) ?_ | refine wz ?_)
  refine vw_nilOwn (d := 3) (id := 1) (k := 2) (T := 70) rfl rfl rfl rfl ?_
  refine vw_loop (fun b : Nat × Nat × List (Nat × Tx) => [(0, some (.sv (.v (.str (tx s))))), (6, some (.sv (.own 1 70 2 (b.2.2.map lineC)))), (8, some (.sv (.v (.int .i64 (b.2.2.length + 1 : Nat))))), (10, some (.sv (.v (.int .i64 (b.2.1 : Nat))))), (16, some (.sv (.v (.int .i64 (s.length : Nat))))), (18, some (.sv (.v (.int .i64 (b.1 : Nat)))))])
    (fun b => b.1 ≤ s.length ∧ b.2.1 ≤ b.1 ∧ b.2.2.length ≤ b.1 ∧ b.2.2 ++ splL (b.2.2.length + 1) ((s.take b.1).drop b.2.1) (s.drop b.1) = splL 1 [] s) (fun b => s.length - b.1) (0, 0, []) (fun _ => rfl) ⟨Nat.zero_le _, Nat.zero_le _, Nat.zero_le _, rfl⟩ ⟨rfl, ⟨_, rfl⟩, rfl, rfl, rfl, rfl, trivial⟩ fun b hI => ?_
  obtain ⟨k, f, L⟩ := b
  obtain ⟨hk, hfk, hLk, hT⟩ := hI
  dsimp only at hk hfk hLk hT ⊢
  rcases Nat.lt_or_ge k s.length with hlt | hge
  · obtain ⟨x, hx⟩ : ∃ x, s[k]? = some x := ⟨_, List.getElem?_eq_getElem hlt⟩
    rw [drop_cons1 s k x hx] at hT
    simp only [splL] at hT
    by_cases hc : x.toNat = 10
    · rw [if_pos hc] at hT
      obtain ⟨y, hy⟩ : ∃ y, (s.take k).drop f = y := ⟨_, rfl⟩
      rw [hy] at hT
      have happ : L.map lineC ++ [lineC (L.length + 1, y)] = (L ++ [(L.length + 1, y)]).map lineC := by simp
      have h63 : (L.map lineC).length + 1 ≤ maxLen := by rw [lines_len]; simp only [maxLen]; omega
      have h48 : ((L.map lineC).length + 1) * 24 ≤ 140737488355328 := by rw [lines_len]; omega
      repeat (first | refine wg rfl (sL (uL_len _)) ?_ | refine wv ?_ | refine wg rfl cT ?_ | refine wg rfl cF ?_ | refine wg rfl nT ?_ | refine wg rfl nF ?_ | refine wg rfl (sem_cmp rfl rfl rfl rfl (rfl) rfl) ?_ | refine wg rfl sB ?_ | refine wg rfl (sem_beq czOk rfl rfl rfl rfl (.inl ⟨rfl, rfl⟩) rfl) ?_ | refine wg rfl (sem_beq czOk rfl rfl rfl rfl (.inr ⟨rfl, rfl⟩) rfl) ?_ | refine wg rfl (sem_conv czOk rfl rfl rfl rfl (wr_u64 (by omega) (by omega)) rfl) ?_ | refine wg rfl (sem_conv czOk rfl rfl rfl rfl (wr_u32 (by omega) (by omega)) rfl) ?_ | refine wg rfl (sem_conv czOk rfl rfl rfl rfl (wr_i64 (by omega) (by omega)) rfl) ?_ | refine wg rfl (sem_tIx czOk k hx rfl rfl rfl rfl rfl rfl) ?_ | refine wg rfl (sem_tMid czOk f k hfk hk hy rfl rfl rfl rfl rfl rfl rfl rfl) ?_ | refine wf rfl rfl (sem_appendE (id := 7001) (es2 := [lineC (L.length + 1, y)]) (m := 2) (bb := 24) czOk rfl rfl rfl rfl rfl rfl rfl rfl rfl rfl rfl (lineC_one _) rfl h63 h48 rfl rfl happ) ?_ | refine wx ?_ | refine rr_off rfl rfl rfl rfl rfl rfl rfl ?_ | refine wg rfl (sem_tLen czOk rfl rfl rfl rfl rfl rfl rfl rfl) ?_ | refine wz ?_)
      refine ⟨(k + 1, k + 1, L ++ [(L.length + 1, y)]), ⟨hlt, Nat.le_refl _, by simp; omega, ?_⟩, by dsimp only; omega, rfl, ⟨_, rfl⟩, ?_, rfl, rfl, rfl, trivial⟩
      · dsimp only
        rw [List.drop_eq_nil_of_le (by rw [List.length_take]; omega), List.length_append, ← hT, List.append_assoc]
        rfl
      · simp; rfl
    · rw [if_neg hc] at hT
      repeat (first | refine wg rfl (sL (uL_len _)) ?_ | refine wv ?_ | refine wg rfl cT ?_ | refine wg rfl cF ?_ | refine wg rfl nT ?_ | refine wg rfl nF ?_ | refine wg rfl (sem_cmp rfl rfl rfl rfl (rfl) rfl) ?_ | refine wg rfl sB ?_ | refine wg rfl (sem_beq czOk rfl rfl rfl rfl (.inl ⟨rfl, rfl⟩) rfl) ?_ | refine wg rfl (sem_beq czOk rfl rfl rfl rfl (.inr ⟨rfl, rfl⟩) rfl) ?_ | refine wg rfl (sem_conv czOk rfl rfl rfl rfl (wr_u64 (by omega) (by omega)) rfl) ?_ | refine wg rfl (sem_conv czOk rfl rfl rfl rfl (wr_u32 (by omega) (by omega)) rfl) ?_ | refine wg rfl (sem_conv czOk rfl rfl rfl rfl (wr_i64 (by omega) (by omega)) rfl) ?_ | refine wg rfl (sem_tIx czOk k hx rfl rfl rfl rfl rfl rfl) ?_ | refine wx ?_ | refine rr_off rfl rfl rfl rfl rfl rfl rfl ?_ | refine wg rfl (sem_tLen czOk rfl rfl rfl rfl rfl rfl rfl rfl) ?_ | refine wz ?_)
      refine ⟨(k + 1, f, L), ⟨hlt, by dsimp only; omega, by dsimp only; omega, ?_⟩, by dsimp only; omega, rfl, ⟨_, rfl⟩, rfl, rfl, rfl, rfl, trivial⟩
      dsimp only
      rw [seg_snoc s f k x hx hfk]
      exact hT
  · have hke : k = s.length := by omega
    subst hke
    rw [List.drop_length] at hT
    simp only [splL] at hT
    rw [List.take_length] at hT
    rcases Nat.lt_or_ge f s.length with hf | hf
    · obtain ⟨y, hy⟩ : ∃ y, s.drop f = y := ⟨_, rfl⟩
      have hne : ¬ y = [] := by rw [← hy]; intro h; have := congrArg List.length h; simp at this; omega
      rw [hy, if_neg hne] at hT
      have happ : L.map lineC ++ [lineC (L.length + 1, y)] = (L ++ [(L.length + 1, y)]).map lineC := by simp
      have h63 : (L.map lineC).length + 1 ≤ maxLen := by rw [lines_len]; simp only [maxLen]; omega
      have h48 : ((L.map lineC).length + 1) * 24 ≤ 140737488355328 := by rw [lines_len]; omega
      repeat (first | refine wg rfl (sL (uL_len _)) ?_ | refine wv ?_ | refine wg rfl cT ?_ | refine wg rfl cF ?_ | refine wg rfl nT ?_ | refine wg rfl nF ?_ | refine wg rfl (sem_cmp rfl rfl rfl rfl (rfl) rfl) ?_ | refine wg rfl sB ?_ | refine wg rfl (sem_beq czOk rfl rfl rfl rfl (.inl ⟨rfl, rfl⟩) rfl) ?_ | refine wg rfl (sem_beq czOk rfl rfl rfl rfl (.inr ⟨rfl, rfl⟩) rfl) ?_ | refine wg rfl (sem_conv czOk rfl rfl rfl rfl (wr_u64 (by omega) (by omega)) rfl) ?_ | refine wg rfl (sem_conv czOk rfl rfl rfl rfl (wr_u32 (by omega) (by omega)) rfl) ?_ | refine wg rfl (sem_conv czOk rfl rfl rfl rfl (wr_i64 (by omega) (by omega)) rfl) ?_ | refine wg rfl (sem_tFrom czOk f hfk hy rfl rfl rfl rfl rfl rfl) ?_ | refine wf rfl rfl (sem_appendE (id := 7001) (es2 := [lineC (L.length + 1, y)]) (m := 2) (bb := 24) czOk rfl rfl rfl rfl rfl rfl rfl rfl rfl rfl rfl (lineC_one _) rfl h63 h48 rfl rfl happ) ?_ | refine wx ?_ | refine rr_off rfl rfl rfl rfl rfl rfl rfl ?_ | refine wg rfl (sem_tLen czOk rfl rfl rfl rfl rfl rfl rfl rfl) ?_ | refine wz ?_)
      exact ⟨.inl rfl, _, rfl, by rw [← hT]⟩
    · rw [List.drop_eq_nil_of_le hf, if_pos rfl, List.append_nil] at hT
      repeat (first | refine wg rfl (sL (uL_len _)) ?_ | refine wv ?_ | refine wg rfl cT ?_ | refine wg rfl cF ?_ | refine wg rfl nT ?_ | refine wg rfl nF ?_ | refine wg rfl (sem_cmp rfl rfl rfl rfl (rfl) rfl) ?_ | refine wg rfl sB ?_ | refine wg rfl (sem_beq czOk rfl rfl rfl rfl (.inl ⟨rfl, rfl⟩) rfl) ?_ | refine wg rfl (sem_beq czOk rfl rfl rfl rfl (.inr ⟨rfl, rfl⟩) rfl) ?_ | refine wg rfl (sem_conv czOk rfl rfl rfl rfl (wr_u64 (by omega) (by omega)) rfl) ?_ | refine wg rfl (sem_conv czOk rfl rfl rfl rfl (wr_u32 (by omega) (by omega)) rfl) ?_ | refine wg rfl (sem_conv czOk rfl rfl rfl rfl (wr_i64 (by omega) (by omega)) rfl) ?_ | refine wx ?_ | refine rr_off rfl rfl rfl rfl rfl rfl rfl ?_ | refine wg rfl (sem_tLen czOk rfl rfl rfl rfl rfl rfl rfl rfl) ?_ | refine wz ?_)
      exact ⟨.inl rfl, _, rfl, by rw [← hT]⟩
end Go.Proofs.YtinmoligjcajmaaGreatDoor
/- simileref28.matrices: told of trees. TEXT -/
namespace Go.Proofs.YtinmoligjcajmaaGreatDoor
open Go.RowKit Go.Ev Go.Vl

def nextF (F : Tx → List Tx → Option (List Tx)) (s : Tx) (out : List Tx) : Option (List Tx) := match s with
  | [] => some out
  | c :: r => if c.toNat = 32 then F r out else none
def matF (L : Lets) : Nat → Tx → List Tx → Option (List Tx)
  | 0, _, _ => none
  | _ + 1, [], _ => none
  | n + 1, c :: r, out => if c.toNat = 91 then
      (if (c :: r).findIdx (· == 93) = (c :: r).length then none else nextF (matF L n) ((c :: r).drop ((c :: r).findIdx (· == 93) + 1)) (out ++ [((c :: r).take ((c :: r).findIdx (· == 93))).drop 1]))
    else if (toldL L ((c :: r).take ((c :: r).findIdx (· == 32)))).2 = true then nextF (matF L n) ((c :: r).drop ((c :: r).findIdx (· == 32))) (out ++ [(toldL L ((c :: r).take ((c :: r).findIdx (· == 32)))).1]) else none
def matsL (L : Lets) (s : Tx) : Option (List Tx) := matF L (s.length + 1) s []
def oneC (t : Tx) : List V := [vT t]
def vTs (l : List Tx) : V := .list (l.map oneC)
def vMats : Option (List Tx) → V
  | none => .tup [.list [], .bool false]
  | some l => .tup [vTs l, .bool true]
theorem oneC_one (x : Tx) : ∀ e ∈ [oneC x], e.length = 1 := by intro e he; simp at he; subst he; rfl
theorem ones_len (l : List Tx) : (l.map oneC).length = l.length := List.length_map ..

set_option maxRecDepth 20000 in
set_option maxHeartbeats 6400000 in
theorem matrices28_v (s0 : Tx) (L : Lets) (hl : s0.length ≤ 1048576) (hL : L.length ≤ 1099511627776) : VCalls Tryz.prog 55 [vT s0, vLets L] (fun y => y = vMats (matsL L s0)) := by
  refine vcalls_enter czOk Tryz.func55 rfl rfl rfl rfl fun w0 => ?_
  have q0 := fun n => told28_v L n hL
  unfold vT vLets at *
  generalize L.map letC = vl at *
  repeat (first | refine wg rfl (sL (uL_len _)) ?_ | refine wv ?_ | refine wg rfl cT ?_ | refine wg rfl cF ?_ | refine wg rfl nT ?_ | refine wg rfl nF ?_ | refine wg rfl (sem_cmp rfl rfl rfl rfl (rfl) rfl) ?_ | refine wg rfl sB ?_ | refine wg rfl (sem_beq czOk rfl rfl rfl rfl (.inl ⟨rfl, rfl⟩) rfl) ?_ | refine wg rfl (sem_beq czOk rfl rfl rfl rfl (.inr ⟨rfl, rfl⟩) rfl) ?_ | refine wg rfl (sem_conv czOk rfl rfl rfl rfl (wr_u64 (by omega) (by omega)) rfl) ?_ | refine wg rfl (sem_conv czOk rfl rfl rfl rfl (wr_u32 (by omega) (by omega)) rfl) ?_ | refine wg rfl (sem_conv czOk rfl rfl rfl rfl (wr_i64 (by omega) (by omega)) rfl) ?_ | refine wx ?_ | refine rr_off rfl rfl rfl rfl rfl rfl rfl ?_ | refine wg rfl (sem_tLen czOk rfl rfl rfl rfl rfl rfl rfl rfl) ?_ | refine wz ?_)
  refine vw_nilOwn (d := 6) (id := 1) (k := 1) (T := 9) rfl rfl rfl rfl ?_
  refine vw_loop (fun b : Nat × Tx × List Tx => [(0, some (.sv (.v (.str (tx b.2.1))))), (2, some (.sv (.v (.list vl)))), (12, some (.sv (.own 1 9 1 (b.2.2.map oneC))))])
    (fun b => b.2.1.length + 1 ≤ b.1 ∧ b.2.2.length + b.2.1.length ≤ s0.length ∧ matF L b.1 b.2.1 b.2.2 = matsL L s0) (fun b => b.2.1.length) (s0.length + 1, s0, []) (fun _ => rfl) ⟨Nat.le_refl _, by simp, rfl⟩ ⟨rfl, rfl, ⟨_, rfl⟩, trivial⟩ fun b hI => ?_
  obtain ⟨fu, s, out⟩ := b
  obtain ⟨hfu, hlen, hM⟩ := hI
  dsimp only at hfu hlen hM ⊢
  generalize matsL L s0 = M at *
  cases fu with
  | zero => omega
  | succ n =>
    cases s with
    | nil =>
      simp only [matF] at hM
      repeat (first | refine wg rfl (sL (uL_len _)) ?_ | refine wv ?_ | refine wg rfl cT ?_ | refine wg rfl cF ?_ | refine wg rfl nT ?_ | refine wg rfl nF ?_ | refine wg rfl (sem_cmp rfl rfl rfl rfl (rfl) rfl) ?_ | refine wg rfl sB ?_ | refine wg rfl (sem_beq czOk rfl rfl rfl rfl (.inl ⟨rfl, rfl⟩) rfl) ?_ | refine wg rfl (sem_beq czOk rfl rfl rfl rfl (.inr ⟨rfl, rfl⟩) rfl) ?_ | refine wg rfl (sem_conv czOk rfl rfl rfl rfl (wr_u64 (by omega) (by omega)) rfl) ?_ | refine wg rfl (sem_conv czOk rfl rfl rfl rfl (wr_u32 (by omega) (by omega)) rfl) ?_ | refine wg rfl (sem_conv czOk rfl rfl rfl rfl (wr_i64 (by omega) (by omega)) rfl) ?_ | refine wg rfl (sem_tEq true rfl rfl rfl rfl rfl) ?_ | refine wx ?_ | refine rr_off rfl rfl rfl rfl rfl rfl rfl ?_ | refine wg rfl (sem_tLen czOk rfl rfl rfl rfl rfl rfl rfl rfl) ?_ | refine wz ?_)
      exact ⟨.inl rfl, _, rfl, by rw [← hM]; rfl⟩
    | cons c r =>
      simp only [matF] at hM
      obtain ⟨s, hs⟩ : ∃ s, c :: r = s := ⟨_, rfl⟩
      have hne : decide (s = []) = false := by rw [← hs]; rfl
      have h0 : s[0]? = some c := by rw [← hs]; rfl
      have hs1 : 1 ≤ s.length := by rw [← hs]; simp
      rw [hs] at hM hlen hfu ⊢
      clear hs
      have h63 : (out.map oneC).length + 1 ≤ maxLen := by rw [ones_len]; simp only [maxLen]; omega
      have h48 : ((out.map oneC).length + 1) * 16 ≤ 140737488355328 := by rw [ones_len]; omega
      by_cases hc : c.toNat = 91
      · rw [if_pos hc] at hM
        repeat (first | refine wg rfl (sL (uL_len _)) ?_ | refine wv ?_ | refine wg rfl cT ?_ | refine wg rfl cF ?_ | refine wg rfl nT ?_ | refine wg rfl nF ?_ | refine wg rfl (sem_cmp rfl rfl rfl rfl (rfl) rfl) ?_ | refine wg rfl sB ?_ | refine wg rfl (sem_beq czOk rfl rfl rfl rfl (.inl ⟨rfl, rfl⟩) rfl) ?_ | refine wg rfl (sem_beq czOk rfl rfl rfl rfl (.inr ⟨rfl, rfl⟩) rfl) ?_ | refine wg rfl (sem_conv czOk rfl rfl rfl rfl (wr_u64 (by omega) (by omega)) rfl) ?_ | refine wg rfl (sem_conv czOk rfl rfl rfl rfl (wr_u32 (by omega) (by omega)) rfl) ?_ | refine wg rfl (sem_conv czOk rfl rfl rfl rfl (wr_i64 (by omega) (by omega)) rfl) ?_ | refine wg rfl (sem_tEq false hne rfl rfl rfl rfl) ?_ | refine wg rfl (sem_tIx czOk 0 h0 rfl rfl rfl rfl rfl rfl) ?_ | refine wx ?_ | refine rr_off rfl rfl rfl rfl rfl rfl rfl ?_ | refine wg rfl (sem_tLen czOk rfl rfl rfl rfl rfl rfl rfl rfl) ?_ | refine wz ?_)
        refine vw_loop (fun k : Nat => [(0, some (.sv (.v (.str (tx s))))), (2, some (.sv (.v (.list vl)))), (12, some (.sv (.own 1 9 1 (out.map oneC)))), (14, some (.sv (.v (.int .i64 (k : Nat)))))])
          (fun k => k ≤ s.length ∧ k ≤ s.findIdx (· == 93)) (fun k => s.length - k) 0 (fun _ => rfl) ⟨Nat.zero_le _, Nat.zero_le _⟩ ⟨rfl, rfl, ⟨_, rfl⟩, rfl, trivial⟩ fun k hI => ?_
        obtain ⟨hk, hf⟩ := hI
        rcases Nat.lt_or_ge k s.length with hlt | hge
        · obtain ⟨x, hx⟩ : ∃ x, s[k]? = some x := ⟨_, List.getElem?_eq_getElem hlt⟩
          by_cases hc : x.toNat = 93
          · have he := fi_hit hf hx (u8_eq hc)
            have hk1 : 1 ≤ k := by
              rcases Nat.eq_zero_or_pos k with h | h
              · subst h; rw [h0] at hx; cases hx; omega
              · exact h
            rw [he, if_neg (by omega)] at hM
            obtain ⟨y, hy⟩ : ∃ y, (s.take k).drop 1 = y := ⟨_, rfl⟩
            obtain ⟨s', hy'⟩ : ∃ s', s.drop (k + 1) = s' := ⟨_, rfl⟩
            rw [hy, hy'] at hM
            have happ : out.map oneC ++ [oneC y] = (out ++ [y]).map oneC := by simp
            have hsl : s'.length = s.length - (k + 1) := by rw [← hy']; simp

            cases s' with
            | nil =>
              repeat (first | refine wg rfl (sL (uL_len _)) ?_ | refine wv ?_ | refine wg rfl cT ?_ | refine wg rfl cF ?_ | refine wg rfl nT ?_ | refine wg rfl nF ?_ | refine wg rfl (sem_cmp rfl rfl rfl rfl (rfl) rfl) ?_ | refine wg rfl sB ?_ | refine wg rfl (sem_beq czOk rfl rfl rfl rfl (.inl ⟨rfl, rfl⟩) rfl) ?_ | refine wg rfl (sem_beq czOk rfl rfl rfl rfl (.inr ⟨rfl, rfl⟩) rfl) ?_ | refine wg rfl (sem_conv czOk rfl rfl rfl rfl (wr_u64 (by omega) (by omega)) rfl) ?_ | refine wg rfl (sem_conv czOk rfl rfl rfl rfl (wr_u32 (by omega) (by omega)) rfl) ?_ | refine wg rfl (sem_conv czOk rfl rfl rfl rfl (wr_i64 (by omega) (by omega)) rfl) ?_ | refine wg rfl (sem_tIx czOk k hx rfl rfl rfl rfl rfl rfl) ?_ | refine wg rfl (sem_tMid czOk 1 k hk1 hk hy rfl rfl rfl rfl rfl rfl rfl rfl) ?_ | refine wg rfl (sem_tFrom czOk (k + 1) hlt hy' rfl rfl rfl rfl rfl rfl) ?_ | refine wf rfl rfl (sem_appendE (id := 7001) (es2 := [oneC y]) (m := 1) (bb := 16) czOk rfl rfl rfl rfl rfl rfl rfl rfl rfl rfl rfl (oneC_one _) rfl h63 h48 rfl rfl happ) ?_ | refine wg rfl (sem_tEq true rfl rfl rfl rfl rfl) ?_ | refine wx ?_ | refine rr_off rfl rfl rfl rfl rfl rfl rfl ?_ | refine wg rfl (sem_tLen czOk rfl rfl rfl rfl rfl rfl rfl rfl) ?_ | refine wz ?_)
              exact ⟨.inl rfl, _, rfl, by rw [← hM]; rfl⟩
            | cons c2 r2 =>
              obtain ⟨s2, hs2⟩ : ∃ s2, c2 :: r2 = s2 := ⟨_, rfl⟩
              have hne2 : decide (s2 = []) = false := by rw [← hs2]; rfl
              have h20 : s2[0]? = some c2 := by rw [← hs2]; rfl
              have htl : s2.drop 1 = r2 := by rw [← hs2]; rfl
              have hl1 : 1 ≤ s2.length := by rw [← hs2]; simp
              simp only [nextF] at hM
              rw [hs2] at hy' hsl
              have hrl : r2.length + 1 = s2.length := by rw [← hs2]; rfl
              by_cases hc2 : c2.toNat = 32
              · rw [if_pos hc2] at hM
                repeat (first | refine wg rfl (sL (uL_len _)) ?_ | refine wv ?_ | refine wg rfl cT ?_ | refine wg rfl cF ?_ | refine wg rfl nT ?_ | refine wg rfl nF ?_ | refine wg rfl (sem_cmp rfl rfl rfl rfl (rfl) rfl) ?_ | refine wg rfl sB ?_ | refine wg rfl (sem_beq czOk rfl rfl rfl rfl (.inl ⟨rfl, rfl⟩) rfl) ?_ | refine wg rfl (sem_beq czOk rfl rfl rfl rfl (.inr ⟨rfl, rfl⟩) rfl) ?_ | refine wg rfl (sem_conv czOk rfl rfl rfl rfl (wr_u64 (by omega) (by omega)) rfl) ?_ | refine wg rfl (sem_conv czOk rfl rfl rfl rfl (wr_u32 (by omega) (by omega)) rfl) ?_ | refine wg rfl (sem_conv czOk rfl rfl rfl rfl (wr_i64 (by omega) (by omega)) rfl) ?_ | refine wg rfl (sem_tIx czOk k hx rfl rfl rfl rfl rfl rfl) ?_ | refine wg rfl (sem_tMid czOk 1 k hk1 hk hy rfl rfl rfl rfl rfl rfl rfl rfl) ?_ | refine wg rfl (sem_tFrom czOk (k + 1) hlt hy' rfl rfl rfl rfl rfl rfl) ?_ | refine wf rfl rfl (sem_appendE (id := 7001) (es2 := [oneC y]) (m := 1) (bb := 16) czOk rfl rfl rfl rfl rfl rfl rfl rfl rfl rfl rfl (oneC_one _) rfl h63 h48 rfl rfl happ) ?_ | refine wg rfl (sem_tEq false hne2 rfl rfl rfl rfl) ?_ | refine wg rfl (sem_tIx czOk 0 h20 rfl rfl rfl rfl rfl rfl) ?_ | refine wg rfl (sem_tFrom czOk 1 hl1 htl rfl rfl rfl rfl rfl rfl) ?_ | refine wx ?_ | refine rr_off rfl rfl rfl rfl rfl rfl rfl ?_ | refine wg rfl (sem_tLen czOk rfl rfl rfl rfl rfl rfl rfl rfl) ?_ | refine wz ?_)
                refine ⟨(n, r2, out ++ [y]), ⟨?_, ?_, hM⟩, ?_, rfl, rfl, ⟨_, rfl⟩, trivial⟩
                · show r2.length + 1 ≤ n
                  omega
                · show (out ++ [y]).length + r2.length ≤ s0.length
                  simp only [List.length_append, List.length_cons, List.length_nil]
                  omega
                · show r2.length < s.length
                  omega
              · rw [if_neg hc2] at hM
                repeat (first | refine wg rfl (sL (uL_len _)) ?_ | refine wv ?_ | refine wg rfl cT ?_ | refine wg rfl cF ?_ | refine wg rfl nT ?_ | refine wg rfl nF ?_ | refine wg rfl (sem_cmp rfl rfl rfl rfl (rfl) rfl) ?_ | refine wg rfl sB ?_ | refine wg rfl (sem_beq czOk rfl rfl rfl rfl (.inl ⟨rfl, rfl⟩) rfl) ?_ | refine wg rfl (sem_beq czOk rfl rfl rfl rfl (.inr ⟨rfl, rfl⟩) rfl) ?_ | refine wg rfl (sem_conv czOk rfl rfl rfl rfl (wr_u64 (by omega) (by omega)) rfl) ?_ | refine wg rfl (sem_conv czOk rfl rfl rfl rfl (wr_u32 (by omega) (by omega)) rfl) ?_ | refine wg rfl (sem_conv czOk rfl rfl rfl rfl (wr_i64 (by omega) (by omega)) rfl) ?_ | refine wg rfl (sem_tIx czOk k hx rfl rfl rfl rfl rfl rfl) ?_ | refine wg rfl (sem_tMid czOk 1 k hk1 hk hy rfl rfl rfl rfl rfl rfl rfl rfl) ?_ | refine wg rfl (sem_tFrom czOk (k + 1) hlt hy' rfl rfl rfl rfl rfl rfl) ?_ | refine wf rfl rfl (sem_appendE (id := 7001) (es2 := [oneC y]) (m := 1) (bb := 16) czOk rfl rfl rfl rfl rfl rfl rfl rfl rfl rfl rfl (oneC_one _) rfl h63 h48 rfl rfl happ) ?_ | refine wg rfl (sem_tEq false hne2 rfl rfl rfl rfl) ?_ | refine wg rfl (sem_tIx czOk 0 h20 rfl rfl rfl rfl rfl rfl) ?_ | refine wx ?_ | refine rr_off rfl rfl rfl rfl rfl rfl rfl ?_ | refine wg rfl (sem_tLen czOk rfl rfl rfl rfl rfl rfl rfl rfl) ?_ | refine wz ?_)
                exact ⟨.inl rfl, _, rfl, by rw [← hM]; rfl⟩
          · have he := fi_step hf hx (u8_ne hc)
            repeat (first | refine wg rfl (sL (uL_len _)) ?_ | refine wv ?_ | refine wg rfl cT ?_ | refine wg rfl cF ?_ | refine wg rfl nT ?_ | refine wg rfl nF ?_ | refine wg rfl (sem_cmp rfl rfl rfl rfl (rfl) rfl) ?_ | refine wg rfl sB ?_ | refine wg rfl (sem_beq czOk rfl rfl rfl rfl (.inl ⟨rfl, rfl⟩) rfl) ?_ | refine wg rfl (sem_beq czOk rfl rfl rfl rfl (.inr ⟨rfl, rfl⟩) rfl) ?_ | refine wg rfl (sem_conv czOk rfl rfl rfl rfl (wr_u64 (by omega) (by omega)) rfl) ?_ | refine wg rfl (sem_conv czOk rfl rfl rfl rfl (wr_u32 (by omega) (by omega)) rfl) ?_ | refine wg rfl (sem_conv czOk rfl rfl rfl rfl (wr_i64 (by omega) (by omega)) rfl) ?_ | refine wg rfl (sem_tIx czOk k hx rfl rfl rfl rfl rfl rfl) ?_ | refine wx ?_ | refine rr_off rfl rfl rfl rfl rfl rfl rfl ?_ | refine wg rfl (sem_tLen czOk rfl rfl rfl rfl rfl rfl rfl rfl) ?_ | refine wz ?_)
            exact ⟨k + 1, ⟨hlt, he⟩, by omega, rfl, rfl, ⟨_, rfl⟩, rfl, trivial⟩
        · have hke : k = s.length := by omega
          subst hke
          rw [fi_end hf, if_pos rfl] at hM
          repeat (first | refine wg rfl (sL (uL_len _)) ?_ | refine wv ?_ | refine wg rfl cT ?_ | refine wg rfl cF ?_ | refine wg rfl nT ?_ | refine wg rfl nF ?_ | refine wg rfl (sem_cmp rfl rfl rfl rfl (rfl) rfl) ?_ | refine wg rfl sB ?_ | refine wg rfl (sem_beq czOk rfl rfl rfl rfl (.inl ⟨rfl, rfl⟩) rfl) ?_ | refine wg rfl (sem_beq czOk rfl rfl rfl rfl (.inr ⟨rfl, rfl⟩) rfl) ?_ | refine wg rfl (sem_conv czOk rfl rfl rfl rfl (wr_u64 (by omega) (by omega)) rfl) ?_ | refine wg rfl (sem_conv czOk rfl rfl rfl rfl (wr_u32 (by omega) (by omega)) rfl) ?_ | refine wg rfl (sem_conv czOk rfl rfl rfl rfl (wr_i64 (by omega) (by omega)) rfl) ?_ | refine wx ?_ | refine rr_off rfl rfl rfl rfl rfl rfl rfl ?_ | refine wg rfl (sem_tLen czOk rfl rfl rfl rfl rfl rfl rfl rfl) ?_ | refine wz ?_)
          exact ⟨.inl rfl, _, rfl, by rw [← hM]; rfl⟩
      · rw [if_neg hc] at hM
        repeat (first | refine wg rfl (sL (uL_len _)) ?_ | refine wv ?_ | refine wg rfl cT ?_ | refine wg rfl cF ?_ | refine wg rfl nT ?_ | refine wg rfl nF ?_ | refine wg rfl (sem_cmp rfl rfl rfl rfl (rfl) rfl) ?_ | refine wg rfl sB ?_ | refine wg rfl (sem_beq czOk rfl rfl rfl rfl (.inl ⟨rfl, rfl⟩) rfl) ?_ | refine wg rfl (sem_beq czOk rfl rfl rfl rfl (.inr ⟨rfl, rfl⟩) rfl) ?_ | refine wg rfl (sem_conv czOk rfl rfl rfl rfl (wr_u64 (by omega) (by omega)) rfl) ?_ | refine wg rfl (sem_conv czOk rfl rfl rfl rfl (wr_u32 (by omega) (by omega)) rfl) ?_ | refine wg rfl (sem_conv czOk rfl rfl rfl rfl (wr_i64 (by omega) (by omega)) rfl) ?_ | refine wg rfl (sem_tEq false hne rfl rfl rfl rfl) ?_ | refine wg rfl (sem_tIx czOk 0 h0 rfl rfl rfl rfl rfl rfl) ?_ | refine wx ?_ | refine rr_off rfl rfl rfl rfl rfl rfl rfl ?_ | refine wg rfl (sem_tLen czOk rfl rfl rfl rfl rfl rfl rfl rfl) ?_ | refine wz ?_)
        refine vw_loop (fun k : Nat => [(0, some (.sv (.v (.str (tx s))))), (2, some (.sv (.v (.list vl)))), (12, some (.sv (.own 1 9 1 (out.map oneC)))), (14, some (.sv (.v (.int .i64 (k : Nat)))))])
          (fun k => k ≤ s.length ∧ k ≤ s.findIdx (· == 32)) (fun k => s.length - k) 0 (fun _ => rfl) ⟨Nat.zero_le _, Nat.zero_le _⟩ ⟨rfl, rfl, ⟨_, rfl⟩, rfl, trivial⟩ fun k hI => ?_
        obtain ⟨hk, hf⟩ := hI
        have key : (∃ x, s[k]? = some x ∧ x.toNat ≠ 32 ∧ k < s.length) ∨ s.findIdx (· == 32) = k ∧ (k = s.length ∨ ∃ x, s[k]? = some x ∧ x.toNat = 32 ∧ k < s.length) := by
          rcases Nat.lt_or_ge k s.length with hlt | hge
          · obtain ⟨x, hx⟩ : ∃ x, s[k]? = some x := ⟨_, List.getElem?_eq_getElem hlt⟩
            by_cases hc : x.toNat = 32
            · exact .inr ⟨fi_hit hf hx (u8_eq hc), .inr ⟨x, hx, hc, hlt⟩⟩
            · exact .inl ⟨x, hx, hc, hlt⟩
          · have hke : k = s.length := by omega
            subst hke
            exact .inr ⟨fi_end hf, .inl rfl⟩
        rcases key with ⟨x, hx, hc, hlt⟩ | ⟨he, hkk⟩
        · have he := fi_step hf hx (u8_ne hc)
          repeat (first | refine wg rfl (sL (uL_len _)) ?_ | refine wv ?_ | refine wg rfl cT ?_ | refine wg rfl cF ?_ | refine wg rfl nT ?_ | refine wg rfl nF ?_ | refine wg rfl (sem_cmp rfl rfl rfl rfl (rfl) rfl) ?_ | refine wg rfl sB ?_ | refine wg rfl (sem_beq czOk rfl rfl rfl rfl (.inl ⟨rfl, rfl⟩) rfl) ?_ | refine wg rfl (sem_beq czOk rfl rfl rfl rfl (.inr ⟨rfl, rfl⟩) rfl) ?_ | refine wg rfl (sem_conv czOk rfl rfl rfl rfl (wr_u64 (by omega) (by omega)) rfl) ?_ | refine wg rfl (sem_conv czOk rfl rfl rfl rfl (wr_u32 (by omega) (by omega)) rfl) ?_ | refine wg rfl (sem_conv czOk rfl rfl rfl rfl (wr_i64 (by omega) (by omega)) rfl) ?_ | refine wg rfl (sem_tIx czOk k hx rfl rfl rfl rfl rfl rfl) ?_ | refine wx ?_ | refine rr_off rfl rfl rfl rfl rfl rfl rfl ?_ | refine wg rfl (sem_tLen czOk rfl rfl rfl rfl rfl rfl rfl rfl) ?_ | refine wz ?_)
          exact ⟨k + 1, ⟨hlt, he⟩, by omega, rfl, rfl, ⟨_, rfl⟩, rfl, trivial⟩
        · rw [he] at hM
          obtain ⟨y0, hy0⟩ : ∃ y0, s.take k = y0 := ⟨_, rfl⟩
          obtain ⟨s', hy'⟩ : ∃ s', s.drop k = s' := ⟨_, rfl⟩
          rw [hy0, hy'] at hM
          have q1 := q0 y0
          obtain ⟨y, hy⟩ : ∃ y, (toldL L y0).1 = y := ⟨_, rfl⟩
          obtain ⟨ok, hok⟩ : ∃ ok, (toldL L y0).2 = ok := ⟨_, rfl⟩
          rw [hy, hok] at hM q1
          have happ : out.map oneC ++ [oneC y] = (out ++ [y]).map oneC := by simp
          have hsl : s'.length = s.length - k := by rw [← hy']; simp
          cases ok with
          | false =>
            rw [if_neg (by decide)] at hM
            rcases hkk with rfl | ⟨x, hx, hc, hlt⟩
            · repeat (first | refine wg rfl (sL (uL_len _)) ?_ | refine wv ?_ | refine wg rfl cT ?_ | refine wg rfl cF ?_ | refine wg rfl nT ?_ | refine wg rfl nF ?_ | refine wg rfl (sem_cmp rfl rfl rfl rfl (rfl) rfl) ?_ | refine wg rfl sB ?_ | refine wg rfl (sem_beq czOk rfl rfl rfl rfl (.inl ⟨rfl, rfl⟩) rfl) ?_ | refine wg rfl (sem_beq czOk rfl rfl rfl rfl (.inr ⟨rfl, rfl⟩) rfl) ?_ | refine wg rfl (sem_conv czOk rfl rfl rfl rfl (wr_u64 (by omega) (by omega)) rfl) ?_ | refine wg rfl (sem_conv czOk rfl rfl rfl rfl (wr_u32 (by omega) (by omega)) rfl) ?_ | refine wg rfl (sem_conv czOk rfl rfl rfl rfl (wr_i64 (by omega) (by omega)) rfl) ?_ | refine wg rfl (sem_tTo czOk s.length hk hy0 rfl rfl rfl rfl rfl rfl) ?_ | refine wc q1 ?_ | refine wx ?_ | refine rr_off rfl rfl rfl rfl rfl rfl rfl ?_ | refine wg rfl (sem_tLen czOk rfl rfl rfl rfl rfl rfl rfl rfl) ?_ | refine wz ?_)
              exact ⟨.inl rfl, _, rfl, by rw [← hM]; rfl⟩
            · repeat (first | refine wg rfl (sL (uL_len _)) ?_ | refine wv ?_ | refine wg rfl cT ?_ | refine wg rfl cF ?_ | refine wg rfl nT ?_ | refine wg rfl nF ?_ | refine wg rfl (sem_cmp rfl rfl rfl rfl (rfl) rfl) ?_ | refine wg rfl sB ?_ | refine wg rfl (sem_beq czOk rfl rfl rfl rfl (.inl ⟨rfl, rfl⟩) rfl) ?_ | refine wg rfl (sem_beq czOk rfl rfl rfl rfl (.inr ⟨rfl, rfl⟩) rfl) ?_ | refine wg rfl (sem_conv czOk rfl rfl rfl rfl (wr_u64 (by omega) (by omega)) rfl) ?_ | refine wg rfl (sem_conv czOk rfl rfl rfl rfl (wr_u32 (by omega) (by omega)) rfl) ?_ | refine wg rfl (sem_conv czOk rfl rfl rfl rfl (wr_i64 (by omega) (by omega)) rfl) ?_ | refine wg rfl (sem_tIx czOk k hx rfl rfl rfl rfl rfl rfl) ?_ | refine wg rfl (sem_tTo czOk k hk hy0 rfl rfl rfl rfl rfl rfl) ?_ | refine wc q1 ?_ | refine wx ?_ | refine rr_off rfl rfl rfl rfl rfl rfl rfl ?_ | refine wg rfl (sem_tLen czOk rfl rfl rfl rfl rfl rfl rfl rfl) ?_ | refine wz ?_)
              exact ⟨.inl rfl, _, rfl, by rw [← hM]; rfl⟩
          | true =>
            rw [if_pos rfl] at hM
            rcases hkk with rfl | ⟨x, hx, hc, hlt⟩
            · have hs'0 : s' = [] := by rw [← hy', List.drop_length]
              subst hs'0
              repeat (first | refine wg rfl (sL (uL_len _)) ?_ | refine wv ?_ | refine wg rfl cT ?_ | refine wg rfl cF ?_ | refine wg rfl nT ?_ | refine wg rfl nF ?_ | refine wg rfl (sem_cmp rfl rfl rfl rfl (rfl) rfl) ?_ | refine wg rfl sB ?_ | refine wg rfl (sem_beq czOk rfl rfl rfl rfl (.inl ⟨rfl, rfl⟩) rfl) ?_ | refine wg rfl (sem_beq czOk rfl rfl rfl rfl (.inr ⟨rfl, rfl⟩) rfl) ?_ | refine wg rfl (sem_conv czOk rfl rfl rfl rfl (wr_u64 (by omega) (by omega)) rfl) ?_ | refine wg rfl (sem_conv czOk rfl rfl rfl rfl (wr_u32 (by omega) (by omega)) rfl) ?_ | refine wg rfl (sem_conv czOk rfl rfl rfl rfl (wr_i64 (by omega) (by omega)) rfl) ?_ | refine wg rfl (sem_tTo czOk s.length hk hy0 rfl rfl rfl rfl rfl rfl) ?_ | refine wg rfl (sem_tFrom czOk s.length hk hy' rfl rfl rfl rfl rfl rfl) ?_ | refine wc q1 ?_ | refine wf rfl rfl (sem_appendE (id := 7001) (es2 := [oneC y]) (m := 1) (bb := 16) czOk rfl rfl rfl rfl rfl rfl rfl rfl rfl rfl rfl (oneC_one _) rfl h63 h48 rfl rfl happ) ?_ | refine wg rfl (sem_tEq true rfl rfl rfl rfl rfl) ?_ | refine wx ?_ | refine rr_off rfl rfl rfl rfl rfl rfl rfl ?_ | refine wg rfl (sem_tLen czOk rfl rfl rfl rfl rfl rfl rfl rfl) ?_ | refine wz ?_)
              exact ⟨.inl rfl, _, rfl, by rw [← hM]; rfl⟩
            · have hs'c : s' = x :: s.drop (k + 1) := by rw [← hy']; exact drop_cons1 s k x hx
              obtain ⟨r2, hr2⟩ : ∃ r2, s.drop (k + 1) = r2 := ⟨_, rfl⟩
              rw [hr2] at hs'c
              have hne2 : decide (s' = []) = false := by rw [hs'c]; rfl
              have h20 : s'[0]? = some x := by rw [hs'c]; rfl
              have htl : s'.drop 1 = r2 := by rw [hs'c]; rfl
              have hl1 : 1 ≤ s'.length := by omega
              have hM' : matF L n r2 (out ++ [y]) = M := by rw [hs'c] at hM; simp only [nextF] at hM; rwa [if_pos hc] at hM
              repeat (first | refine wg rfl (sL (uL_len _)) ?_ | refine wv ?_ | refine wg rfl cT ?_ | refine wg rfl cF ?_ | refine wg rfl nT ?_ | refine wg rfl nF ?_ | refine wg rfl (sem_cmp rfl rfl rfl rfl (rfl) rfl) ?_ | refine wg rfl sB ?_ | refine wg rfl (sem_beq czOk rfl rfl rfl rfl (.inl ⟨rfl, rfl⟩) rfl) ?_ | refine wg rfl (sem_beq czOk rfl rfl rfl rfl (.inr ⟨rfl, rfl⟩) rfl) ?_ | refine wg rfl (sem_conv czOk rfl rfl rfl rfl (wr_u64 (by omega) (by omega)) rfl) ?_ | refine wg rfl (sem_conv czOk rfl rfl rfl rfl (wr_u32 (by omega) (by omega)) rfl) ?_ | refine wg rfl (sem_conv czOk rfl rfl rfl rfl (wr_i64 (by omega) (by omega)) rfl) ?_ | refine wg rfl (sem_tIx czOk k hx rfl rfl rfl rfl rfl rfl) ?_ | refine wg rfl (sem_tTo czOk k hk hy0 rfl rfl rfl rfl rfl rfl) ?_ | refine wg rfl (sem_tFrom czOk k hk hy' rfl rfl rfl rfl rfl rfl) ?_ | refine wc q1 ?_ | refine wf rfl rfl (sem_appendE (id := 7001) (es2 := [oneC y]) (m := 1) (bb := 16) czOk rfl rfl rfl rfl rfl rfl rfl rfl rfl rfl rfl (oneC_one _) rfl h63 h48 rfl rfl happ) ?_ | refine wg rfl (sem_tEq false hne2 rfl rfl rfl rfl) ?_ | refine wg rfl (sem_tIx czOk 0 h20 rfl rfl rfl rfl rfl rfl) ?_ | refine wg rfl (sem_tFrom czOk 1 hl1 htl rfl rfl rfl rfl rfl rfl) ?_ | refine wx ?_ | refine rr_off rfl rfl rfl rfl rfl rfl rfl ?_ | refine wg rfl (sem_tLen czOk rfl rfl rfl rfl rfl rfl rfl rfl) ?_ | refine wz ?_)
              refine ⟨(n, r2, out ++ [y]), ⟨?_, ?_, hM'⟩, ?_, rfl, rfl, ⟨_, rfl⟩, trivial⟩
              · show r2.length + 1 ≤ n
                have hr3 : r2.length + 1 = s'.length := by rw [hs'c]; rfl
                omega
              · show (out ++ [y]).length + r2.length ≤ s0.length
                have hr3 : r2.length + 1 = s'.length := by rw [hs'c]; rfl
                simp only [List.length_append, List.length_cons, List.length_nil]
                omega
              · show r2.length < s.length
                have hr3 : r2.length + 1 = s'.length := by rw [hs'c]; rfl
                omega
end Go.Proofs.YtinmoligjcajmaaGreatDoor
/- More steps of the walk: empty slices in variables, told as rows of one's own. -/
namespace Go.Vl
open Go.RowKit Go.Ev
section
variable {P : Program} {w0 : Base} {n : Nat} {st : St} {Q : Post} {ops : Array Oper}
/-- a variable is made a value -/
theorem vw_frzB {c : Code} (s d : Nat) {cs : List SV} {r : List V} (h : lk st (2 * s) = some (.sv (.bx d 0))) (hb : lk st (2 * d + 1) = some (.bx cs)) (hr : asVs cs = some r) (hv : VW P w0 n c Q ((2 * s, some (.sv (.v (.ref r)))) :: (2 * d + 1, none) :: st)) : VW P w0 n c Q st := vw_ghost (ghost_box h hb hr) hv
/-! ### structures with empty slices -/
theorem OpSem.more {o : Oper} {rd : List Nat} {nw : List (Nat × Nat)} {u : St} {f : Fm} (ex : List Nat) (h : OpSem P w0 n o rd u nw f) : OpSem P w0 n o (rd ++ ex) u nw f := fun g hg => h g fun k hk => hg k (List.mem_append_left _ hk)
/-- a variable made in a region that draws its order -/
theorem rr_alloc {C : Cx} {o : Oper} {id k d : Nat} {dr : Bool} {st0 : St} {acc : List Stp} {rd : List Nat} {nw : List (Nat × Nat)} {u : St} {t : TypeId} (hC : CxOk P C) {gr : List Nat} (ho : ops.toList[k]? = some o) (hal : o.op = .alloc t) (hd : o.dst = some d) (hg : gRd n ops (lk st) o = some gr) (h : vop C (id * 1000 + k + 1) n (lk st) o = some (rd, u, nw)) (hn : nw.all (noPt st) = true) (hk : RR P w0 n id ops dr Q st0 (k + 1) (⟨gr ++ (rd ++ [2 * d + 1]), u, nw⟩ :: acc) (u ++ st)) : RR P w0 n id ops dr Q st0 k acc st :=
  rr_g ho hg (OpSem.more [2 * d + 1] (vop_ok hC h)) hn hk
end
end Go.Vl
namespace Go.Proofs.YtinmoligjcajmaaGreatDoor
open Go.RowKit Go.Ev Go.Vl
theorem wl {w0 : Base} {n : Nat} {st : St} {Q : Post} {ops : Array Oper} {o : Oper} {id k d : Nat} {dr : Bool} {st0 : St} {acc : List Stp} {rd : List Nat} {nw : List (Nat × Nat)} {u : St} {t : TypeId} {gr : List Nat} (hk : RR Tryz.prog w0 n id ops dr Q st0 (k + 1) (⟨gr ++ (rd ++ [2 * d + 1]), u, nw⟩ :: acc) (u ++ st)) (ho : ops.toList[k]? = some o := by exact rfl) (hal : o.op = .alloc t := by exact rfl) (hd : o.dst = some d := by exact rfl) (hg : gRd n ops (lk st) o = some gr := by exact rfl) (h : vop cxCx (id * 1000 + k + 1) n (lk st) o = some (rd, u, nw) := by exact rfl) (hn : nw.all (noPt st) = true := by exact rfl) : RR Tryz.prog w0 n id ops dr Q st0 k acc st := rr_alloc czOk ho hal hd hg h hn hk
end Go.Proofs.YtinmoligjcajmaaGreatDoor
/- simileref28.ask: told of trees. TEXT ALLOC -/
namespace Go.Proofs.YtinmoligjcajmaaGreatDoor
open Go.RowKit Go.Ev Go.Vl

def cLet : Tx := [108, 101, 116]
def cRou : Tx := [114, 111, 117, 116, 101]
def cSim : Tx := [115, 105, 109, 105, 108, 97, 114]
def cCen : Tx := [99, 101, 110, 116, 114, 97, 108, 105, 115, 101, 114]
def cFro : Tx := [102, 114, 111, 98, 101, 110, 105, 117, 115]
def cCha : Tx := [99, 104, 97, 114]
def cMin : Tx := [109, 105, 110, 112, 111, 108, 121]
def cRan : Tx := [114, 97, 110, 107]
def cDet : Tx := [100, 101, 116]
def cInv : Tx := [105, 110, 118, 101, 114, 115, 101]
def cKey : Tx := [107, 101, 121]
def matR (n : Tx) (m : Nat) : Option (List Tx) → Tx × List Tx × Bool
  | none => (n, [], false)
  | some l => (n, l, m == 0 || l.length == m)
def letR (rest : Tx) : Tx × List Tx × Bool :=
  if (cutL rest).2.2 = true ∧ nameL (cutL rest).1 = true ∧ 2 ≤ (cutL rest).2.1.length ∧ (cutL rest).2.1.head? = some 91 ∧ (cutL rest).2.1.findIdx (· == 93) = (cutL rest).2.1.length - 1
  then ((cutL rest).1, [((cutL rest).2.1.take ((cutL rest).2.1.length - 1)).drop 1], true) else ([], [], false)
def rouR (L : Lets) (rest : Tx) : Tx × List Tx × Bool :=
  if (cutL rest).2.2 = true ∧ roadB (cutL rest).1 = true then matR (cutL rest).1 1 (matsL L (cutL rest).2.1) else ([], [], false)
def manyOf (w : Tx) : Option Nat :=
  if w = cSim then some 2 else if w = cCen then some 0
  else if w = cFro ∨ w = cCha ∨ w = cMin ∨ w = cRan ∨ w = cDet ∨ w = cInv ∨ w = cKey then some 1 else none
def askR (L : Lets) (w rest : Tx) : Tx × List Tx × Bool :=
  if w = cLet then letR rest else if w = cRou then rouR L rest
  else match manyOf w with
    | none => ([], [], false)
    | some m => matR [] m (matsL L rest)
def askL (L : Lets) (s : Tx) : Tx × List Tx × Bool := if (cutL s).2.2 = true then askR L (cutL s).1 (cutL s).2.1 else ([], [], false)
def askC (k : Nat) (w : Tx) (x : Tx × List Tx × Bool) : List V := [.int .i64 (k : Nat), vT w, vT x.1, vTs x.2.1]
def vAsk (k : Nat) (w : Tx) (x : Tx × List Tx × Bool) : V := .tup [.agg (askC k w x), .bool x.2.2]
theorem cutL_len (s : Tx) : (cutL s).1.length ≤ s.length ∧ (cutL s).2.1.length ≤ s.length := by
  unfold cutL
  split
  · constructor
    · exact (List.take_sublist _ _).length_le
    · exact (List.drop_sublist _ _).length_le
  · exact ⟨Nat.le_refl _, Nat.zero_le _⟩

set_option maxRecDepth 20000 in
set_option maxHeartbeats 12800000 in
theorem ask28_v (k : Nat) (s : Tx) (L : Lets) (hk : k ≤ 1048577) (hl : s.length ≤ 1048576) (hL : L.length ≤ 1048577) : VCalls Tryz.prog 27 [.agg (lineC (k, s)), vLets L] (fun y => y = vAsk k (cutL s).1 (askL L s)) := by
  refine vcalls_enter czOk Tryz.func27 rfl rfl rfl rfl fun w0 => ?_
  have q1 := cut28_v s (by omega)
  have hcl := cutL_len s
  unfold askL
  generalize cutL s = C at *
  obtain ⟨w, rest, ok⟩ := C
  dsimp only at hcl ⊢
  unfold lineC vT vCut at *
  dsimp only at q1
  cases ok with
  | false =>
    rw [if_neg (by decide)]
    repeat (first | refine wl ?_ | refine wg rfl (sL (uL_len _)) ?_ | refine wv ?_ | refine wg rfl cT ?_ | refine wg rfl cF ?_ | refine wg rfl nT ?_ | refine wg rfl nF ?_ | refine wg rfl (sem_cmp rfl rfl rfl rfl (rfl) rfl) ?_ | refine wg rfl sB ?_ | refine wg rfl (sem_beq czOk rfl rfl rfl rfl (.inl ⟨rfl, rfl⟩) rfl) ?_ | refine wg rfl (sem_beq czOk rfl rfl rfl rfl (.inr ⟨rfl, rfl⟩) rfl) ?_ | refine wg rfl (sem_conv czOk rfl rfl rfl rfl (wr_u64 (by omega) (by omega)) rfl) ?_ | refine wg rfl (sem_conv czOk rfl rfl rfl rfl (wr_u32 (by omega) (by omega)) rfl) ?_ | refine wg rfl (sem_conv czOk rfl rfl rfl rfl (wr_i64 (by omega) (by omega)) rfl) ?_ | refine wc q1 ?_ | refine wx ?_ | refine rr_off rfl rfl rfl rfl rfl rfl rfl ?_ | refine wg rfl (sem_tLen czOk rfl rfl rfl rfl rfl rfl rfl rfl) ?_ | refine wz ?_)
    exact ⟨.inl rfl, _, rfl, rfl⟩
  | true =>
    rw [if_pos rfl]
    have hrl : rest.length ≤ 1048576 := Nat.le_trans hcl.2 hl
    clear hcl
    have q0 := fun r (h : r.length ≤ 1048576) => matrices28_v r L h (by omega)
    unfold vLets vT at *
    generalize hvl : L.map letC = vl at *
    repeat (first | refine wl ?_ | refine wg rfl (sL (uL_len _)) ?_ | refine wv ?_ | refine wg rfl cT ?_ | refine wg rfl cF ?_ | refine wg rfl nT ?_ | refine wg rfl nF ?_ | refine wg rfl (sem_cmp rfl rfl rfl rfl (rfl) rfl) ?_ | refine wg rfl sB ?_ | refine wg rfl (sem_beq czOk rfl rfl rfl rfl (.inl ⟨rfl, rfl⟩) rfl) ?_ | refine wg rfl (sem_beq czOk rfl rfl rfl rfl (.inr ⟨rfl, rfl⟩) rfl) ?_ | refine wg rfl (sem_conv czOk rfl rfl rfl rfl (wr_u64 (by omega) (by omega)) rfl) ?_ | refine wg rfl (sem_conv czOk rfl rfl rfl rfl (wr_u32 (by omega) (by omega)) rfl) ?_ | refine wg rfl (sem_conv czOk rfl rfl rfl rfl (wr_i64 (by omega) (by omega)) rfl) ?_ | refine wc q1 ?_ | refine wx ?_ | refine rr_off rfl rfl rfl rfl rfl rfl rfl ?_ | refine wg rfl (sem_tLen czOk rfl rfl rfl rfl rfl rfl rfl rfl) ?_ | refine wz ?_)
    clear q1
    refine rr_meet (fun b : Tx × Tx × Nat => [(9, some (.bx [.v (.int .i64 0), .v (.str (tx [])), .v (.str (tx [])), .nils])), (8, some (.sv (.bx 4 0))), (18, some (.sv (.bx 9 0))), (19, some (.bx [.v (.int .i64 (k : Nat)), .v (.str (tx w)), .v (.str (tx b.1)), .v (.list [])])), (2, some (.sv (.v (.list vl)))), (14, some (.sv (.v (.str (tx b.2.1))))), (20, some (.sv (.v (.int .i64 (b.2.2 : Nat)))))])
      (fun b => matR b.1 b.2.2 (matsL L b.2.1) = askR L w rest ∧ b.2.1.length ≤ 1048576 ∧ b.2.2 ≤ 2) (fun _ => rfl) ?_ ?_
    rotate_left
    · rintro ⟨nm, r, m⟩ ⟨hX, hr, hm⟩
      dsimp only at hX hr hm ⊢
      rw [← hX]
      have q4 := q0 r hr
      generalize matsL L r = M at *
      cases M with
      | none =>
        repeat (first | refine wl ?_ | refine wg rfl (sL (uL_len _)) ?_ | refine wv ?_ | refine wg rfl cT ?_ | refine wg rfl cF ?_ | refine wg rfl nT ?_ | refine wg rfl nF ?_ | refine wg rfl (sem_cmp rfl rfl rfl rfl (rfl) rfl) ?_ | refine wg rfl sB ?_ | refine wg rfl (sem_beq czOk rfl rfl rfl rfl (.inl ⟨rfl, rfl⟩) rfl) ?_ | refine wg rfl (sem_beq czOk rfl rfl rfl rfl (.inr ⟨rfl, rfl⟩) rfl) ?_ | refine wg rfl (sem_conv czOk rfl rfl rfl rfl (wr_u64 (by omega) (by omega)) rfl) ?_ | refine wg rfl (sem_conv czOk rfl rfl rfl rfl (wr_u32 (by omega) (by omega)) rfl) ?_ | refine wg rfl (sem_conv czOk rfl rfl rfl rfl (wr_i64 (by omega) (by omega)) rfl) ?_ | refine wc q4 ?_ | refine wx ?_ | refine rr_off rfl rfl rfl rfl rfl rfl rfl ?_ | refine wg rfl (sem_tLen czOk rfl rfl rfl rfl rfl rfl rfl rfl) ?_ | refine wz ?_)
        exact ⟨.inl rfl, _, rfl, rfl⟩
      | some l =>
        have hll := ones_len l
        generalize hgl : l.length = len at *
        by_cases h0 : m = 0
        · subst h0
          repeat (first | refine wg rfl (sL hll) ?_ | refine wl ?_ | refine wg rfl (sL (uL_len _)) ?_ | refine wv ?_ | refine wc q4 ?_ | refine wg rfl cT ?_ | refine wg rfl cF ?_ | refine wg rfl nT ?_ | refine wg rfl nF ?_ | refine wg rfl (sem_cmp rfl rfl rfl rfl (rfl) rfl) ?_ | refine wg rfl sB ?_ | refine wg rfl (sem_beq czOk rfl rfl rfl rfl (.inl ⟨rfl, rfl⟩) rfl) ?_ | refine wg rfl (sem_beq czOk rfl rfl rfl rfl (.inr ⟨rfl, rfl⟩) rfl) ?_ | refine wg rfl (sem_conv czOk rfl rfl rfl rfl (wr_u64 (by omega) (by omega)) rfl) ?_ | refine wg rfl (sem_conv czOk rfl rfl rfl rfl (wr_u32 (by omega) (by omega)) rfl) ?_ | refine wg rfl (sem_conv czOk rfl rfl rfl rfl (wr_i64 (by omega) (by omega)) rfl) ?_ | refine wx ?_ | refine rr_off rfl rfl rfl rfl rfl rfl rfl ?_ | refine wg rfl (sem_tLen czOk rfl rfl rfl rfl rfl rfl rfl rfl) ?_ | refine wz ?_)
          exact ⟨.inl rfl, _, rfl, by simp [vAsk, matR, askC, vTs, vT]⟩
        · by_cases h1 : len = m
          · subst h1
            repeat (first | refine wg rfl (sL hll) ?_ | refine wl ?_ | refine wg rfl (sL (uL_len _)) ?_ | refine wv ?_ | refine wc q4 ?_ | refine wg rfl cT ?_ | refine wg rfl cF ?_ | refine wg rfl nT ?_ | refine wg rfl nF ?_ | refine wg rfl (sem_cmp rfl rfl rfl rfl (rfl) rfl) ?_ | refine wg rfl sB ?_ | refine wg rfl (sem_beq czOk rfl rfl rfl rfl (.inl ⟨rfl, rfl⟩) rfl) ?_ | refine wg rfl (sem_beq czOk rfl rfl rfl rfl (.inr ⟨rfl, rfl⟩) rfl) ?_ | refine wg rfl (sem_conv czOk rfl rfl rfl rfl (wr_u64 (by omega) (by omega)) rfl) ?_ | refine wg rfl (sem_conv czOk rfl rfl rfl rfl (wr_u32 (by omega) (by omega)) rfl) ?_ | refine wg rfl (sem_conv czOk rfl rfl rfl rfl (wr_i64 (by omega) (by omega)) rfl) ?_ | refine wx ?_ | refine rr_off rfl rfl rfl rfl rfl rfl rfl ?_ | refine wg rfl (sem_tLen czOk rfl rfl rfl rfl rfl rfl rfl rfl) ?_ | refine wz ?_)
            exact ⟨.inl rfl, _, rfl, by simp [vAsk, matR, askC, hgl, vTs, vT]⟩
          · repeat (first | refine wg rfl (sL hll) ?_ | refine wl ?_ | refine wg rfl (sL (uL_len _)) ?_ | refine wv ?_ | refine wc q4 ?_ | refine wg rfl cT ?_ | refine wg rfl cF ?_ | refine wg rfl nT ?_ | refine wg rfl nF ?_ | refine wg rfl (sem_cmp rfl rfl rfl rfl (rfl) rfl) ?_ | refine wg rfl sB ?_ | refine wg rfl (sem_beq czOk rfl rfl rfl rfl (.inl ⟨rfl, rfl⟩) rfl) ?_ | refine wg rfl (sem_beq czOk rfl rfl rfl rfl (.inr ⟨rfl, rfl⟩) rfl) ?_ | refine wg rfl (sem_conv czOk rfl rfl rfl rfl (wr_u64 (by omega) (by omega)) rfl) ?_ | refine wg rfl (sem_conv czOk rfl rfl rfl rfl (wr_u32 (by omega) (by omega)) rfl) ?_ | refine wg rfl (sem_conv czOk rfl rfl rfl rfl (wr_i64 (by omega) (by omega)) rfl) ?_ | refine wx ?_ | refine rr_off rfl rfl rfl rfl rfl rfl rfl ?_ | refine wg rfl (sem_tLen czOk rfl rfl rfl rfl rfl rfl rfl rfl) ?_ | refine wz ?_)
            exact ⟨.inl rfl, _, rfl, by simp [vAsk, matR, askC, hgl, vTs, vT, h0, h1]⟩
    clear q0
    by_cases hlet : w = cLet
    · have h1 : decide (w = cLet) = true := by rw [hlet]; rfl
      unfold askR
      rw [if_pos hlet]
      clear hlet
      have q2 := cut28_v rest (by omega)
      have hcl2 := cutL_len rest
      unfold letR
      generalize cutL rest = C at *
      obtain ⟨nm, t, ok⟩ := C
      have q3 := name28_v nm (by dsimp only at hcl2; omega)
      dsimp only at hcl2 ⊢
      unfold vCut vT at *
      dsimp only at q2
      cases ok with
      | false =>
        rw [if_neg (by simp)]
        repeat (first | refine wl ?_ | refine wg rfl (sL (uL_len _)) ?_ | refine wv ?_ | refine wg rfl cT ?_ | refine wg rfl cF ?_ | refine wg rfl nT ?_ | refine wg rfl nF ?_ | refine wg rfl (sem_cmp rfl rfl rfl rfl (rfl) rfl) ?_ | refine wg rfl sB ?_ | refine wg rfl (sem_beq czOk rfl rfl rfl rfl (.inl ⟨rfl, rfl⟩) rfl) ?_ | refine wg rfl (sem_beq czOk rfl rfl rfl rfl (.inr ⟨rfl, rfl⟩) rfl) ?_ | refine wg rfl (sem_conv czOk rfl rfl rfl rfl (wr_u64 (by omega) (by omega)) rfl) ?_ | refine wg rfl (sem_conv czOk rfl rfl rfl rfl (wr_u32 (by omega) (by omega)) rfl) ?_ | refine wg rfl (sem_conv czOk rfl rfl rfl rfl (wr_i64 (by omega) (by omega)) rfl) ?_ | refine wc q2 ?_ | refine wg rfl (sem_tEq _ h1 rfl rfl rfl rfl) ?_ | refine wx ?_ | refine rr_off rfl rfl rfl rfl rfl rfl rfl ?_ | refine wg rfl (sem_tLen czOk rfl rfl rfl rfl rfl rfl rfl rfl) ?_ | refine wz ?_)
        exact ⟨.inl rfl, _, rfl, rfl⟩
      | true =>
        generalize nameL nm = nb at *
        cases nb with
        | false =>
          rw [if_neg (by simp)]
          repeat (first | refine wl ?_ | refine wg rfl (sL (uL_len _)) ?_ | refine wv ?_ | refine wg rfl cT ?_ | refine wg rfl cF ?_ | refine wg rfl nT ?_ | refine wg rfl nF ?_ | refine wg rfl (sem_cmp rfl rfl rfl rfl (rfl) rfl) ?_ | refine wg rfl sB ?_ | refine wg rfl (sem_beq czOk rfl rfl rfl rfl (.inl ⟨rfl, rfl⟩) rfl) ?_ | refine wg rfl (sem_beq czOk rfl rfl rfl rfl (.inr ⟨rfl, rfl⟩) rfl) ?_ | refine wg rfl (sem_conv czOk rfl rfl rfl rfl (wr_u64 (by omega) (by omega)) rfl) ?_ | refine wg rfl (sem_conv czOk rfl rfl rfl rfl (wr_u32 (by omega) (by omega)) rfl) ?_ | refine wg rfl (sem_conv czOk rfl rfl rfl rfl (wr_i64 (by omega) (by omega)) rfl) ?_ | refine wc q2 ?_ | refine wc q3 ?_ | refine wg rfl (sem_tEq _ h1 rfl rfl rfl rfl) ?_ | refine wx ?_ | refine rr_off rfl rfl rfl rfl rfl rfl rfl ?_ | refine wg rfl (sem_tLen czOk rfl rfl rfl rfl rfl rfl rfl rfl) ?_ | refine wz ?_)
          exact ⟨.inl rfl, _, rfl, rfl⟩
        | true =>
          by_cases h2 : 2 ≤ t.length
          · obtain ⟨c, hc⟩ : ∃ c, t[0]? = some c := ⟨_, List.getElem?_eq_getElem (by omega)⟩
            have hh : t.head? = some c := by rw [List.head?_eq_getElem?, hc]
            by_cases hc91 : c.toNat = 91
            · have hh2 : t.head? = some 91 := by rw [hh, UInt8.toNat_inj.1 (show c.toNat = (91 : UInt8).toNat from hc91)]
              repeat (first | refine wl ?_ | refine wg rfl (sL (uL_len _)) ?_ | refine wv ?_ | refine wg rfl cT ?_ | refine wg rfl cF ?_ | refine wg rfl nT ?_ | refine wg rfl nF ?_ | refine wg rfl (sem_cmp rfl rfl rfl rfl (rfl) rfl) ?_ | refine wg rfl sB ?_ | refine wg rfl (sem_beq czOk rfl rfl rfl rfl (.inl ⟨rfl, rfl⟩) rfl) ?_ | refine wg rfl (sem_beq czOk rfl rfl rfl rfl (.inr ⟨rfl, rfl⟩) rfl) ?_ | refine wg rfl (sem_conv czOk rfl rfl rfl rfl (wr_u64 (by omega) (by omega)) rfl) ?_ | refine wg rfl (sem_conv czOk rfl rfl rfl rfl (wr_u32 (by omega) (by omega)) rfl) ?_ | refine wg rfl (sem_conv czOk rfl rfl rfl rfl (wr_i64 (by omega) (by omega)) rfl) ?_ | refine wc q2 ?_ | refine wc q3 ?_ | refine wg rfl (sem_tEq _ h1 rfl rfl rfl rfl) ?_ | refine wg rfl (sem_tIx czOk 0 hc rfl rfl rfl rfl rfl rfl) ?_ | refine wx ?_ | refine rr_off rfl rfl rfl rfl rfl rfl rfl ?_ | refine wg rfl (sem_tLen czOk rfl rfl rfl rfl rfl rfl rfl rfl) ?_ | refine wz ?_)
              refine vw_loop (fun i : Nat => [(9, some (.bx [.v (.int .i64 0), .v (.str (tx [])), .v (.str (tx [])), .nils])), (8, some (.sv (.bx 4 0))), (18, some (.sv (.bx 9 0))), (19, some (.bx [.v (.int .i64 (k : Nat)), .v (.str (tx w)), .v (.str (tx [])), .v (.list [])])), (22, some (.sv (.v (.str (tx nm))))), (24, some (.sv (.v (.str (tx t))))), (122, some (.sv (.v (.int .i64 (t.length : Nat))))), (124, some (.sv (.v (.int .i64 (i : Nat)))))])
                (fun i => i ≤ t.length ∧ (i < t.length → i ≤ t.findIdx (· == 93)) ∧ (i = t.length → t.findIdx (· == 93) = t.length - 1)) (fun i => t.length - i) 0 (fun _ => rfl) ⟨Nat.zero_le _, fun _ => Nat.zero_le _, fun h => by omega⟩ ?_ fun i hI => ?_
              · exact ⟨rfl, rfl, rfl, rfl, rfl, rfl, rfl, rfl, trivial⟩
              · obtain ⟨hi, hf, hg⟩ := hI
                rcases Nat.lt_or_ge i t.length with hlt | hge
                · obtain ⟨x, hx⟩ : ∃ x, t[i]? = some x := ⟨_, List.getElem?_eq_getElem hlt⟩
                  have hf := hf hlt
                  by_cases hc : x.toNat = 93
                  · have he := fi_hit hf hx (u8_eq hc)
                    by_cases hil : i = t.length - 1
                    · repeat (first | refine wl ?_ | refine wg rfl (sL (uL_len _)) ?_ | refine wv ?_ | refine wg rfl cT ?_ | refine wg rfl cF ?_ | refine wg rfl nT ?_ | refine wg rfl nF ?_ | refine wg rfl (sem_cmp rfl rfl rfl rfl (rfl) rfl) ?_ | refine wg rfl sB ?_ | refine wg rfl (sem_beq czOk rfl rfl rfl rfl (.inl ⟨rfl, rfl⟩) rfl) ?_ | refine wg rfl (sem_beq czOk rfl rfl rfl rfl (.inr ⟨rfl, rfl⟩) rfl) ?_ | refine wg rfl (sem_conv czOk rfl rfl rfl rfl (wr_u64 (by omega) (by omega)) rfl) ?_ | refine wg rfl (sem_conv czOk rfl rfl rfl rfl (wr_u32 (by omega) (by omega)) rfl) ?_ | refine wg rfl (sem_conv czOk rfl rfl rfl rfl (wr_i64 (by omega) (by omega)) rfl) ?_ | refine wg rfl (sem_tIx czOk i hx rfl rfl rfl rfl rfl rfl) ?_ | refine wx ?_ | refine rr_off rfl rfl rfl rfl rfl rfl rfl ?_ | refine wg rfl (sem_tLen czOk rfl rfl rfl rfl rfl rfl rfl rfl) ?_ | refine wz ?_)
                      exact ⟨i + 1, ⟨hlt, fun h => by omega, fun _ => by omega⟩, by omega, rfl, rfl, rfl, rfl, rfl, rfl, rfl, rfl, trivial⟩
                    · rw [if_neg (fun h => hil (by rw [← he]; exact h.2.2.2.2))]
                      repeat (first | refine wl ?_ | refine wg rfl (sL (uL_len _)) ?_ | refine wv ?_ | refine wg rfl cT ?_ | refine wg rfl cF ?_ | refine wg rfl nT ?_ | refine wg rfl nF ?_ | refine wg rfl (sem_cmp rfl rfl rfl rfl (rfl) rfl) ?_ | refine wg rfl sB ?_ | refine wg rfl (sem_beq czOk rfl rfl rfl rfl (.inl ⟨rfl, rfl⟩) rfl) ?_ | refine wg rfl (sem_beq czOk rfl rfl rfl rfl (.inr ⟨rfl, rfl⟩) rfl) ?_ | refine wg rfl (sem_conv czOk rfl rfl rfl rfl (wr_u64 (by omega) (by omega)) rfl) ?_ | refine wg rfl (sem_conv czOk rfl rfl rfl rfl (wr_u32 (by omega) (by omega)) rfl) ?_ | refine wg rfl (sem_conv czOk rfl rfl rfl rfl (wr_i64 (by omega) (by omega)) rfl) ?_ | refine wg rfl (sem_tIx czOk i hx rfl rfl rfl rfl rfl rfl) ?_ | refine wx ?_ | refine rr_off rfl rfl rfl rfl rfl rfl rfl ?_ | refine wg rfl (sem_tLen czOk rfl rfl rfl rfl rfl rfl rfl rfl) ?_ | refine wz ?_)
                      exact ⟨.inl rfl, _, rfl, rfl⟩
                  · have he := fi_step hf hx (u8_ne hc)
                    by_cases hil : i = t.length - 1
                    · rw [if_neg (fun h => by have := h.2.2.2.2; omega)]
                      repeat (first | refine wl ?_ | refine wg rfl (sL (uL_len _)) ?_ | refine wv ?_ | refine wg rfl cT ?_ | refine wg rfl cF ?_ | refine wg rfl nT ?_ | refine wg rfl nF ?_ | refine wg rfl (sem_cmp rfl rfl rfl rfl (rfl) rfl) ?_ | refine wg rfl sB ?_ | refine wg rfl (sem_beq czOk rfl rfl rfl rfl (.inl ⟨rfl, rfl⟩) rfl) ?_ | refine wg rfl (sem_beq czOk rfl rfl rfl rfl (.inr ⟨rfl, rfl⟩) rfl) ?_ | refine wg rfl (sem_conv czOk rfl rfl rfl rfl (wr_u64 (by omega) (by omega)) rfl) ?_ | refine wg rfl (sem_conv czOk rfl rfl rfl rfl (wr_u32 (by omega) (by omega)) rfl) ?_ | refine wg rfl (sem_conv czOk rfl rfl rfl rfl (wr_i64 (by omega) (by omega)) rfl) ?_ | refine wg rfl (sem_tIx czOk i hx rfl rfl rfl rfl rfl rfl) ?_ | refine wx ?_ | refine rr_off rfl rfl rfl rfl rfl rfl rfl ?_ | refine wg rfl (sem_tLen czOk rfl rfl rfl rfl rfl rfl rfl rfl) ?_ | refine wz ?_)
                      exact ⟨.inl rfl, _, rfl, rfl⟩
                    · repeat (first | refine wl ?_ | refine wg rfl (sL (uL_len _)) ?_ | refine wv ?_ | refine wg rfl cT ?_ | refine wg rfl cF ?_ | refine wg rfl nT ?_ | refine wg rfl nF ?_ | refine wg rfl (sem_cmp rfl rfl rfl rfl (rfl) rfl) ?_ | refine wg rfl sB ?_ | refine wg rfl (sem_beq czOk rfl rfl rfl rfl (.inl ⟨rfl, rfl⟩) rfl) ?_ | refine wg rfl (sem_beq czOk rfl rfl rfl rfl (.inr ⟨rfl, rfl⟩) rfl) ?_ | refine wg rfl (sem_conv czOk rfl rfl rfl rfl (wr_u64 (by omega) (by omega)) rfl) ?_ | refine wg rfl (sem_conv czOk rfl rfl rfl rfl (wr_u32 (by omega) (by omega)) rfl) ?_ | refine wg rfl (sem_conv czOk rfl rfl rfl rfl (wr_i64 (by omega) (by omega)) rfl) ?_ | refine wg rfl (sem_tIx czOk i hx rfl rfl rfl rfl rfl rfl) ?_ | refine wx ?_ | refine rr_off rfl rfl rfl rfl rfl rfl rfl ?_ | refine wg rfl (sem_tLen czOk rfl rfl rfl rfl rfl rfl rfl rfl) ?_ | refine wz ?_)
                      exact ⟨i + 1, ⟨hlt, fun h => he, fun h => by omega⟩, by omega, rfl, rfl, rfl, rfl, rfl, rfl, rfl, rfl, trivial⟩
                · have hie : i = t.length := by omega
                  subst hie
                  have he := hg rfl
                  rw [if_pos ⟨rfl, rfl, h2, hh2, he⟩]
                  obtain ⟨y, hy⟩ : ∃ y, (t.take (t.length - 1)).drop 1 = y := ⟨_, rfl⟩
                  rw [hy]
                  repeat (first | refine wl ?_ | refine wg rfl (sL (uL_len _)) ?_ | refine wv ?_ | refine wg rfl cT ?_ | refine wg rfl cF ?_ | refine wg rfl nT ?_ | refine wg rfl nF ?_ | refine wg rfl (sem_cmp rfl rfl rfl rfl (rfl) rfl) ?_ | refine wg rfl sB ?_ | refine wg rfl (sem_beq czOk rfl rfl rfl rfl (.inl ⟨rfl, rfl⟩) rfl) ?_ | refine wg rfl (sem_beq czOk rfl rfl rfl rfl (.inr ⟨rfl, rfl⟩) rfl) ?_ | refine wg rfl (sem_conv czOk rfl rfl rfl rfl (wr_u64 (by omega) (by omega)) rfl) ?_ | refine wg rfl (sem_conv czOk rfl rfl rfl rfl (wr_u32 (by omega) (by omega)) rfl) ?_ | refine wg rfl (sem_conv czOk rfl rfl rfl rfl (wr_i64 (by omega) (by omega)) rfl) ?_ | refine wg rfl (sem_tMid czOk 1 (t.length - 1) (by omega) (by omega) hy rfl rfl rfl rfl rfl (by omega) rfl rfl) ?_ | refine wx ?_ | refine rr_off rfl rfl rfl rfl rfl rfl rfl ?_ | refine wg rfl (sem_tLen czOk rfl rfl rfl rfl rfl rfl rfl rfl) ?_ | refine wz ?_)
                  refine fun _ => vw_frzB 9 9 rfl rfl rfl ?_
                  repeat (first | refine wl ?_ | refine wg rfl (sL (uL_len _)) ?_ | refine wv ?_ | refine wg rfl cT ?_ | refine wg rfl cF ?_ | refine wg rfl nT ?_ | refine wg rfl nF ?_ | refine wg rfl (sem_cmp rfl rfl rfl rfl (rfl) rfl) ?_ | refine wg rfl sB ?_ | refine wg rfl (sem_beq czOk rfl rfl rfl rfl (.inl ⟨rfl, rfl⟩) rfl) ?_ | refine wg rfl (sem_beq czOk rfl rfl rfl rfl (.inr ⟨rfl, rfl⟩) rfl) ?_ | refine wg rfl (sem_conv czOk rfl rfl rfl rfl (wr_u64 (by omega) (by omega)) rfl) ?_ | refine wg rfl (sem_conv czOk rfl rfl rfl rfl (wr_u32 (by omega) (by omega)) rfl) ?_ | refine wg rfl (sem_conv czOk rfl rfl rfl rfl (wr_i64 (by omega) (by omega)) rfl) ?_ | refine wx ?_ | refine rr_off rfl rfl rfl rfl rfl rfl rfl ?_ | refine wg rfl (sem_tLen czOk rfl rfl rfl rfl rfl rfl rfl rfl) ?_ | refine wz ?_)
                  exact ⟨.inl rfl, _, rfl, rfl⟩
            · rw [if_neg (fun h => by rw [hh] at h; exact hc91 (by rw [Option.some.inj h.2.2.2.1]; rfl))]
              repeat (first | refine wl ?_ | refine wg rfl (sL (uL_len _)) ?_ | refine wv ?_ | refine wg rfl cT ?_ | refine wg rfl cF ?_ | refine wg rfl nT ?_ | refine wg rfl nF ?_ | refine wg rfl (sem_cmp rfl rfl rfl rfl (rfl) rfl) ?_ | refine wg rfl sB ?_ | refine wg rfl (sem_beq czOk rfl rfl rfl rfl (.inl ⟨rfl, rfl⟩) rfl) ?_ | refine wg rfl (sem_beq czOk rfl rfl rfl rfl (.inr ⟨rfl, rfl⟩) rfl) ?_ | refine wg rfl (sem_conv czOk rfl rfl rfl rfl (wr_u64 (by omega) (by omega)) rfl) ?_ | refine wg rfl (sem_conv czOk rfl rfl rfl rfl (wr_u32 (by omega) (by omega)) rfl) ?_ | refine wg rfl (sem_conv czOk rfl rfl rfl rfl (wr_i64 (by omega) (by omega)) rfl) ?_ | refine wc q2 ?_ | refine wc q3 ?_ | refine wg rfl (sem_tEq _ h1 rfl rfl rfl rfl) ?_ | refine wg rfl (sem_tIx czOk 0 hc rfl rfl rfl rfl rfl rfl) ?_ | refine wx ?_ | refine rr_off rfl rfl rfl rfl rfl rfl rfl ?_ | refine wg rfl (sem_tLen czOk rfl rfl rfl rfl rfl rfl rfl rfl) ?_ | refine wz ?_)
              exact ⟨.inl rfl, _, rfl, rfl⟩
          · rw [if_neg (fun h => h2 h.2.2.1)]
            repeat (first | refine wl ?_ | refine wg rfl (sL (uL_len _)) ?_ | refine wv ?_ | refine wg rfl cT ?_ | refine wg rfl cF ?_ | refine wg rfl nT ?_ | refine wg rfl nF ?_ | refine wg rfl (sem_cmp rfl rfl rfl rfl (rfl) rfl) ?_ | refine wg rfl sB ?_ | refine wg rfl (sem_beq czOk rfl rfl rfl rfl (.inl ⟨rfl, rfl⟩) rfl) ?_ | refine wg rfl (sem_beq czOk rfl rfl rfl rfl (.inr ⟨rfl, rfl⟩) rfl) ?_ | refine wg rfl (sem_conv czOk rfl rfl rfl rfl (wr_u64 (by omega) (by omega)) rfl) ?_ | refine wg rfl (sem_conv czOk rfl rfl rfl rfl (wr_u32 (by omega) (by omega)) rfl) ?_ | refine wg rfl (sem_conv czOk rfl rfl rfl rfl (wr_i64 (by omega) (by omega)) rfl) ?_ | refine wc q2 ?_ | refine wc q3 ?_ | refine wg rfl (sem_tEq _ h1 rfl rfl rfl rfl) ?_ | refine wx ?_ | refine rr_off rfl rfl rfl rfl rfl rfl rfl ?_ | refine wg rfl (sem_tLen czOk rfl rfl rfl rfl rfl rfl rfl rfl) ?_ | refine wz ?_)
            exact ⟨.inl rfl, _, rfl, rfl⟩
    · have h1 : decide (w = cLet) = false := decide_eq_false hlet
      unfold askR
      rw [if_neg hlet]
      by_cases hrou : w = cRou
      · have h2 : decide (w = cRou) = true := decide_eq_true hrou
        rw [if_pos hrou]
        clear hrou hlet
        have q2 := cut28_v rest (by omega)
        have hcl2 := cutL_len rest
        unfold rouR
        generalize cutL rest = C at *
        obtain ⟨nm, t, ok⟩ := C
        have q3 := road28_v nm
        dsimp only at hcl2 ⊢
        unfold vCut vT at *
        dsimp only at q2
        cases ok with
        | false =>
          rw [if_neg (by simp)]
          repeat (first | refine wl ?_ | refine wg rfl (sL (uL_len _)) ?_ | refine wv ?_ | refine wg rfl cT ?_ | refine wg rfl cF ?_ | refine wg rfl nT ?_ | refine wg rfl nF ?_ | refine wg rfl (sem_cmp rfl rfl rfl rfl (rfl) rfl) ?_ | refine wg rfl sB ?_ | refine wg rfl (sem_beq czOk rfl rfl rfl rfl (.inl ⟨rfl, rfl⟩) rfl) ?_ | refine wg rfl (sem_beq czOk rfl rfl rfl rfl (.inr ⟨rfl, rfl⟩) rfl) ?_ | refine wg rfl (sem_conv czOk rfl rfl rfl rfl (wr_u64 (by omega) (by omega)) rfl) ?_ | refine wg rfl (sem_conv czOk rfl rfl rfl rfl (wr_u32 (by omega) (by omega)) rfl) ?_ | refine wg rfl (sem_conv czOk rfl rfl rfl rfl (wr_i64 (by omega) (by omega)) rfl) ?_ | refine wc q2 ?_ | refine wg rfl (sem_tEq _ h1 rfl rfl rfl rfl) ?_ | refine wg rfl (sem_tEq _ h2 rfl rfl rfl rfl) ?_ | refine wx ?_ | refine rr_off rfl rfl rfl rfl rfl rfl rfl ?_ | refine wg rfl (sem_tLen czOk rfl rfl rfl rfl rfl rfl rfl rfl) ?_ | refine wz ?_)
          exact ⟨.inl rfl, _, rfl, rfl⟩
        | true =>
          generalize roadB nm = nb at *
          cases nb with
          | false =>
            rw [if_neg (by simp)]
            repeat (first | refine wl ?_ | refine wg rfl (sL (uL_len _)) ?_ | refine wv ?_ | refine wg rfl cT ?_ | refine wg rfl cF ?_ | refine wg rfl nT ?_ | refine wg rfl nF ?_ | refine wg rfl (sem_cmp rfl rfl rfl rfl (rfl) rfl) ?_ | refine wg rfl sB ?_ | refine wg rfl (sem_beq czOk rfl rfl rfl rfl (.inl ⟨rfl, rfl⟩) rfl) ?_ | refine wg rfl (sem_beq czOk rfl rfl rfl rfl (.inr ⟨rfl, rfl⟩) rfl) ?_ | refine wg rfl (sem_conv czOk rfl rfl rfl rfl (wr_u64 (by omega) (by omega)) rfl) ?_ | refine wg rfl (sem_conv czOk rfl rfl rfl rfl (wr_u32 (by omega) (by omega)) rfl) ?_ | refine wg rfl (sem_conv czOk rfl rfl rfl rfl (wr_i64 (by omega) (by omega)) rfl) ?_ | refine wc q2 ?_ | refine wc q3 ?_ | refine wg rfl (sem_tEq _ h1 rfl rfl rfl rfl) ?_ | refine wg rfl (sem_tEq _ h2 rfl rfl rfl rfl) ?_ | refine wx ?_ | refine rr_off rfl rfl rfl rfl rfl rfl rfl ?_ | refine wg rfl (sem_tLen czOk rfl rfl rfl rfl rfl rfl rfl rfl) ?_ | refine wz ?_)
            exact ⟨.inl rfl, _, rfl, rfl⟩
          | true =>
            rw [if_pos ⟨rfl, rfl⟩]
            repeat (first | refine wl ?_ | refine wg rfl (sL (uL_len _)) ?_ | refine wv ?_ | refine wg rfl cT ?_ | refine wg rfl cF ?_ | refine wg rfl nT ?_ | refine wg rfl nF ?_ | refine wg rfl (sem_cmp rfl rfl rfl rfl (rfl) rfl) ?_ | refine wg rfl sB ?_ | refine wg rfl (sem_beq czOk rfl rfl rfl rfl (.inl ⟨rfl, rfl⟩) rfl) ?_ | refine wg rfl (sem_beq czOk rfl rfl rfl rfl (.inr ⟨rfl, rfl⟩) rfl) ?_ | refine wg rfl (sem_conv czOk rfl rfl rfl rfl (wr_u64 (by omega) (by omega)) rfl) ?_ | refine wg rfl (sem_conv czOk rfl rfl rfl rfl (wr_u32 (by omega) (by omega)) rfl) ?_ | refine wg rfl (sem_conv czOk rfl rfl rfl rfl (wr_i64 (by omega) (by omega)) rfl) ?_ | refine wc q2 ?_ | refine wc q3 ?_ | refine wg rfl (sem_tEq _ h1 rfl rfl rfl rfl) ?_ | refine wg rfl (sem_tEq _ h2 rfl rfl rfl rfl) ?_ | refine wx ?_ | refine rr_off rfl rfl rfl rfl rfl rfl rfl ?_ | refine wg rfl (sem_tLen czOk rfl rfl rfl rfl rfl rfl rfl rfl) ?_ | refine wz ?_)
            exact ⟨(nm, t, 1), ⟨rfl, by dsimp only; omega, by dsimp only; omega⟩, rfl, rfl, rfl, rfl, rfl, rfl, rfl, trivial⟩
      · have h2 : decide (w = cRou) = false := decide_eq_false hrou
        rw [if_neg hrou]
        have key : (manyOf w = none ∧ w ≠ cSim ∧ w ≠ cCen ∧ w ≠ cFro ∧ w ≠ cCha ∧ w ≠ cMin ∧ w ≠ cRan ∧ w ≠ cDet ∧ w ≠ cInv ∧ w ≠ cKey) ∨ w = cSim ∨ w = cCen ∨ w = cFro ∨ w = cCha ∨ w = cMin ∨ w = cRan ∨ w = cDet ∨ w = cInv ∨ w = cKey := by
          unfold manyOf
          by_cases a1 : w = cSim
          · exact .inr (.inl a1)
          by_cases a2 : w = cCen
          · exact .inr (.inr (.inl a2))
          rw [if_neg a1, if_neg a2]
          by_cases a3 : w = cFro ∨ w = cCha ∨ w = cMin ∨ w = cRan ∨ w = cDet ∨ w = cInv ∨ w = cKey
          · exact .inr (.inr (.inr a3))
          · rw [if_neg a3]
            simp only [not_or] at a3
            exact .inl ⟨rfl, a1, a2, a3⟩
        clear hrou hlet
        rcases key with ⟨hm, b3, b4, b5, b6, b7, b8, b9, b10, b11⟩ | key
        · have h3 := decide_eq_false b3
          have h4 := decide_eq_false b4
          have h5 := decide_eq_false b5
          have h6 := decide_eq_false b6
          have h7 := decide_eq_false b7
          have h8 := decide_eq_false b8
          have h9 := decide_eq_false b9
          have h10 := decide_eq_false b10
          have h11 := decide_eq_false b11
          clear b3 b4 b5 b6 b7 b8 b9 b10 b11
          rw [hm]
          repeat (first | refine wl ?_ | refine wg rfl (sL (uL_len _)) ?_ | refine wv ?_ | refine wg rfl cT ?_ | refine wg rfl cF ?_ | refine wg rfl nT ?_ | refine wg rfl nF ?_ | refine wg rfl (sem_cmp rfl rfl rfl rfl (rfl) rfl) ?_ | refine wg rfl sB ?_ | refine wg rfl (sem_beq czOk rfl rfl rfl rfl (.inl ⟨rfl, rfl⟩) rfl) ?_ | refine wg rfl (sem_beq czOk rfl rfl rfl rfl (.inr ⟨rfl, rfl⟩) rfl) ?_ | refine wg rfl (sem_conv czOk rfl rfl rfl rfl (wr_u64 (by omega) (by omega)) rfl) ?_ | refine wg rfl (sem_conv czOk rfl rfl rfl rfl (wr_u32 (by omega) (by omega)) rfl) ?_ | refine wg rfl (sem_conv czOk rfl rfl rfl rfl (wr_i64 (by omega) (by omega)) rfl) ?_ | refine wg rfl (sem_tEq _ h1 rfl rfl rfl rfl) ?_ | refine wg rfl (sem_tEq _ h2 rfl rfl rfl rfl) ?_ | refine wg rfl (sem_tEq _ h3 rfl rfl rfl rfl) ?_ | refine wg rfl (sem_tEq _ h4 rfl rfl rfl rfl) ?_ | refine wg rfl (sem_tEq _ h5 rfl rfl rfl rfl) ?_ | refine wg rfl (sem_tEq _ h6 rfl rfl rfl rfl) ?_ | refine wg rfl (sem_tEq _ h7 rfl rfl rfl rfl) ?_ | refine wg rfl (sem_tEq _ h8 rfl rfl rfl rfl) ?_ | refine wg rfl (sem_tEq _ h9 rfl rfl rfl rfl) ?_ | refine wg rfl (sem_tEq _ h10 rfl rfl rfl rfl) ?_ | refine wg rfl (sem_tEq _ h11 rfl rfl rfl rfl) ?_ | refine wx ?_ | refine rr_off rfl rfl rfl rfl rfl rfl rfl ?_ | refine wg rfl (sem_tLen czOk rfl rfl rfl rfl rfl rfl rfl rfl) ?_ | refine wz ?_)
          exact ⟨.inl rfl, _, rfl, rfl⟩
        · obtain ⟨m, hm, hm2⟩ : ∃ m, manyOf w = some m ∧ m ≤ 2 := by rcases key with rfl | rfl | rfl | rfl | rfl | rfl | rfl | rfl | rfl <;> first | exact ⟨2, rfl, by decide⟩ | exact ⟨0, rfl, by decide⟩ | exact ⟨1, rfl, by decide⟩
          rw [hm]
          have hb : ∀ c : Tx, ∃ b, decide (w = c) = b := fun c => ⟨_, rfl⟩
          have hmm : m = if w = cSim then 2 else if w = cCen then 0 else 1 := by rcases key with rfl | rfl | rfl | rfl | rfl | rfl | rfl | rfl | rfl <;> exact (Option.some.inj hm).symm
          clear hm
          rcases key with e | e | e | e | e | e | e | e | e
          all_goals
            obtain ⟨b3, h3⟩ := hb cSim
            obtain ⟨b4, h4⟩ := hb cCen
            obtain ⟨b5, h5⟩ := hb cFro
            obtain ⟨b6, h6⟩ := hb cCha
            obtain ⟨b7, h7⟩ := hb cMin
            obtain ⟨b8, h8⟩ := hb cRan
            obtain ⟨b9, h9⟩ := hb cDet
            obtain ⟨b10, h10⟩ := hb cInv
            obtain ⟨b11, h11⟩ := hb cKey
            have e3 := h3
            have e4 := h4
            have e5 := h5
            have e6 := h6
            have e7 := h7
            have e8 := h8
            have e9 := h9
            have e10 := h10
            have e11 := h11
            have hmm' := hmm
            rw [e] at e3 e4 e5 e6 e7 e8 e9 e10 e11 hmm'
            subst e3 e4 e5 e6 e7 e8 e9 e10 e11
            subst hmm'
            clear hmm hb e
            repeat (first | refine wl ?_ | refine wg rfl (sL (uL_len _)) ?_ | refine wv ?_ | refine wg rfl cT ?_ | refine wg rfl cF ?_ | refine wg rfl nT ?_ | refine wg rfl nF ?_ | refine wg rfl (sem_cmp rfl rfl rfl rfl (rfl) rfl) ?_ | refine wg rfl sB ?_ | refine wg rfl (sem_beq czOk rfl rfl rfl rfl (.inl ⟨rfl, rfl⟩) rfl) ?_ | refine wg rfl (sem_beq czOk rfl rfl rfl rfl (.inr ⟨rfl, rfl⟩) rfl) ?_ | refine wg rfl (sem_conv czOk rfl rfl rfl rfl (wr_u64 (by omega) (by omega)) rfl) ?_ | refine wg rfl (sem_conv czOk rfl rfl rfl rfl (wr_u32 (by omega) (by omega)) rfl) ?_ | refine wg rfl (sem_conv czOk rfl rfl rfl rfl (wr_i64 (by omega) (by omega)) rfl) ?_ | refine wg rfl (sem_tEq _ h1 rfl rfl rfl rfl) ?_ | refine wg rfl (sem_tEq _ h2 rfl rfl rfl rfl) ?_ | refine wg rfl (sem_tEq _ h3 rfl rfl rfl rfl) ?_ | refine wg rfl (sem_tEq _ h4 rfl rfl rfl rfl) ?_ | refine wg rfl (sem_tEq _ h5 rfl rfl rfl rfl) ?_ | refine wg rfl (sem_tEq _ h6 rfl rfl rfl rfl) ?_ | refine wg rfl (sem_tEq _ h7 rfl rfl rfl rfl) ?_ | refine wg rfl (sem_tEq _ h8 rfl rfl rfl rfl) ?_ | refine wg rfl (sem_tEq _ h9 rfl rfl rfl rfl) ?_ | refine wg rfl (sem_tEq _ h10 rfl rfl rfl rfl) ?_ | refine wg rfl (sem_tEq _ h11 rfl rfl rfl rfl) ?_ | refine wx ?_ | refine rr_off rfl rfl rfl rfl rfl rfl rfl ?_ | refine wg rfl (sem_tLen czOk rfl rfl rfl rfl rfl rfl rfl rfl) ?_ | refine wz ?_)
            exact ⟨([], rest, _), ⟨rfl, hrl, hm2⟩, rfl, rfl, rfl, rfl, rfl, rfl, rfl, trivial⟩
end Go.Proofs.YtinmoligjcajmaaGreatDoor
/- What lies between trees and the heap: rows of texts; simileref28's functions at heaps. -/
namespace Go.Proofs.YtinmoligjcajmaaGreatDoor
open Go.RowKit Go.Ev Go.Vl

def letCells (L : Lets) : List Value := L.flatMap fun x => [.string (tx x.1), .string (tx x.2)]
theorem letCells_len (L : Lets) : (letCells L).length = L.length * 2 := by
  induction L with
  | nil => rfl
  | cons x L ih => simp only [letCells, List.flatMap_cons, List.length_append, List.length_cons, List.length_nil] at ih ⊢; omega
theorem letCells_snoc (L : Lets) (a b : Tx) : letCells (L ++ [(a, b)]) = letCells L ++ [.string (tx a), .string (tx b)] := by
  simp [letCells]
theorem lets_rep (S : Nat → Prop) (w : World) (L : Lets) : RepL S w (L.map letC).flatten (letCells L) := by
  induction L with
  | nil => exact .nil
  | cons x L ih => exact .cons (.str _) (.cons (.str _) ih)
theorem own_lets {w : World} {B : Nat} {v : Value} {L : Lets} (h : w.ownsRow B 76 2 v L.length (letCells L)) : Rep (fun b => v.ownBlock = some b) w (vLets L) v := by
  have h0 := h
  rcases h.2 with ⟨rfl, h9⟩ | ⟨g, cap, cur, rfl, hb, hg, hc, _, hs, ht⟩
  · obtain rfl : L = [] := List.length_eq_zero_iff.1 h9
    exact .nils
  · have hl : (L.map letC).length = L.length := List.length_map ..
    have := Rep.list (S := fun b => (Value.slice (some ⟨g, 0, none⟩) L.length cap).ownBlock = some b) (w := w) (k := 2) (es := L.map letC) (us := letCells L) (b := g) (off := 0) (cap := cap)
      (fun e he => by obtain ⟨x, _, rfl⟩ := List.mem_map.1 he; rfl) (fun e he => by obtain ⟨x, _, rfl⟩ := List.mem_map.1 he; rfl) (by rw [hl]; exact hc) (lets_rep _ _ _) (fun _ => ⟨rfl, (Array.getElem?_eq_some_iff.1 hg).1⟩)
      (fun j u hj => by
        have hj2 := (List.getElem?_eq_some_iff.1 hj).1
        rw [letCells_len] at hj2
        rw [Nat.zero_add, h0.cellAt j hj2, hj])
    rw [hl] at this
    exact this

theorem tx_bytes (s : ByteArray) : tx s.data.toList = s := by
  rcases s with ⟨a⟩
  exact congrArg ByteArray.mk (Array.toArray_toList)

theorem ask_k (k : Nat) (s : Tx) (L : Lets) (v : Value) (w : World) (B : Nat) (h : w.ownsRow B 76 2 v L.length (letCells L)) (hk : k ≤ 1048577) (hl : s.length ≤ 1048576) (hL : L.length ≤ 1048577) :
    Calls Tryz.prog 27 #[.agg #[.int .i64 (k : Nat), .string (tx s)], v] w fun e w' => Below w.heap.size w w' ∧ ∃ M, e = .returned (.tuple #[.agg #[.int .i64 (k : Nat), .string (tx (cutL s).1), .string (tx (askL L s).1), M], .bool (askL L s).2.2]) ∧ Rep (fun _ => True) w' (vTs (askL L s).2.1) M := by
  refine (ask28_v k s L hk hl hL (fun b => v.ownBlock = some b) w [.agg #[.int .i64 (k : Nat), .string (tx s)], v] (.cons (.agg (us := [.int .i64 (k : Nat), .string (tx s)]) rfl (.cons (.int _ _) (.cons (.str _) .nil))) (.cons (own_lets h) .nil))).mono ?_
  rintro e w' ⟨u, y, rfl, rfl, hr, hb⟩
  refine ⟨hb, ?_⟩
  unfold vAsk askC vT at hr
  cases hr with
  | tup hr =>
    cases hr with
    | cons h1 hr =>
      cases hr with
      | cons h2 hr =>
        cases hr
        cases h2
        cases h1 with
        | agg _ h1 =>
          cases h1 with
          | cons a1 h1 =>
            cases a1
            cases h1 with
            | cons a2 h1 =>
              cases a2
              cases h1 with
              | cons a3 h1 =>
                cases a3
                cases h1 with
                | cons a4 h1 =>
                  cases h1
                  exact ⟨_, rfl, a4.mono fun _ _ _ => trivial⟩

theorem split_k (s : Tx) (w : World) (hl : s.length ≤ 1048576) :
    Calls Tryz.prog 25 #[.string (tx s)] w fun e w' => Below w.heap.size w w' ∧ ∃ v, e = .returned v ∧ Rep (fun b => w.heap.size ≤ b) w' (.list ((splL 1 [] s).map lineC)) v := by
  refine (split28_v s hl (fun _ => False) w [.string (tx s)] (.cons (.str _) .nil)).mono ?_
  rintro e w' ⟨u, y, rfl, rfl, hr, hb⟩
  exact ⟨hb, _, rfl, hr.mono fun b h _ => h.resolve_left id⟩

/-- a line among the lines, in its cells -/
theorem line_at {S : Nat → Prop} {w : World} {l : List (Nat × Tx)} {v : Value} (h : Rep S w (.list (l.map lineC)) v) (i : Nat) (x : Nat × Tx) (hi : l[i]? = some x) :
    ∃ b off cap, v = .slice (some ⟨b, off, none⟩) l.length cap ∧ w.cell? ⟨b, off + i * 2, none⟩ = some (.int .i64 (x.1 : Nat)) ∧ w.cell? ⟨b, off + i * 2 + 1, none⟩ = some (.string (tx x.2)) := by
  obtain ⟨b, off, cap, rfl, hr⟩ := h.list_at i (lineC x) (by rw [List.getElem?_map, hi]; rfl)
  refine ⟨b, off, cap, by rw [lines_len], ?_⟩
  unfold lineC at hr
  cases hr with
  | ref _ h hb hu =>
    cases h with
    | cons a1 h =>
      cases a1
      cases h with
      | cons a2 h =>
        cases a2
        exact ⟨hu 0 _ rfl, hu 1 _ rfl⟩

/-- the first of texts, in its cell -/
theorem text_at {S : Nat → Prop} {w : World} {l : List Tx} {v : Value} (h : Rep S w (vTs l) v) (i : Nat) (x : Tx) (hi : l[i]? = some x) :
    ∃ b off cap, v = .slice (some ⟨b, off, none⟩) l.length cap ∧ w.cell? ⟨b, off + i, none⟩ = some (.string (tx x)) := by
  obtain ⟨b, off, cap, rfl, hr⟩ := h.list_at i (oneC x) (by rw [List.getElem?_map, hi]; rfl)
  refine ⟨b, off, cap, by rw [ones_len], ?_⟩
  unfold oneC at hr
  cases hr with
  | ref _ h hb hu =>
    cases h with
    | cons a1 h =>
      cases a1
      have := hu 0 _ rfl
      rw [show off + i * [vT x].length + 0 = off + i from by show off + i * 1 + 0 = off + i; omega] at this
      exact this

/-- append as one step of a region that draws -/
theorem stepOwn {P : Program} {w w0 : World} {ops : Array Oper} {o : Oper} {a : Act} {K : Act → World → Prop} {Q : Exit → Act → World → Prop} {E0 : Prop} {t e : TypeId} {z : Value} {size bytes : Nat}
    (E : Elem P t e z size bytes) (hg : o.guard = none) (s x : Operand) (ho : o.op = .call { callee := .builtin .append, args := #[s, x], argTypes := #[t, t] })
    (B n m c : Nat) (v : Value) (xs : List Value) (arr : Array Value) (hown : w.ownsRow B e size v n xs) (hs : a.eval s = v) (hx : a.eval x = .slice (some ⟨w.heap.size, 0, none⟩) m c)
    (hl : arr.size = m * size) (h1 : ∀ u, u ∈ arr.toList → u.oneCell' = true)
    (hb : (n + m) * bytes ≤ 140737488355328) (hm : 0 < m) (h63 : n + m ≤ maxLen) (hbl : Below B w0 w) (hB : B ≤ w.heap.size)
    (h : ∀ g' c' w', w'.ownsRow B e size (.slice (some ⟨g', 0, none⟩) (n + m) c') (n + m) (xs ++ arr.toList) → Below B w0 w' → (w.alloc (.cells arr e)).grownBy w' v.ownBlock →
      K (a.put o.dst (.slice (some ⟨g', 0, none⟩) (n + m) c')) w') :
    if Region.wanted o (yielded ops a.tmps) = true then Oper.wp P o a (w.alloc (.cells arr e)) K Q else E0 := by
  have hw : Region.wanted o (yielded ops a.tmps) = true := by simp [Region.wanted, hg]
  rw [if_pos hw]
  obtain ⟨i, hi, hz, hsz, hby⟩ := info_parts E.row
  refine wp_append_own _ s x t ho B e i z size bytes E.sl hi hz hsz hby E.zs E.pos v n xs hs (hown.alloc _) ⟨w.heap.size, 0, none⟩ m c arr.toList hx (by simpa using hl) ?_ h1 h63 hb
    (by simp; omega) ?_
  · intro j u hj
    rw [Addr.add_lit]
    have := cell_of_row (w.alloc (.cells arr e)) w.heap.size (0 + j) arr e (0, 0) (heap_alloc_new w _)
    rw [this]
    simpa using hj
  · intro v' w' hown' hgr hnil
    have hsh : ∃ g' c', v' = .slice (some ⟨g', 0, none⟩) (n + m) c' := by
      rcases hown'.2 with ⟨h1, _⟩ | ⟨g', c', _, h1, _⟩
      · have := (hnil.1 h1).2
        omega
      · exact ⟨g', c', h1⟩
    obtain ⟨g', c', rfl⟩ := hsh
    refine h g' c' w' hown' ((hbl.alloc hB _).grown hgr (by simp; omega) ?_) hgr
    intro k hk
    exact ((hown.lt) k hk).1

/-- a row outlives another one's growth, if their elements' types differ -/
theorem ownGrown {w w' : World} {B B' : Nat} {e e' : TypeId} {s s' n n' : Nat} {v v' : Value} {xs xs' : List Value} (h : w.ownsRow B e s v n xs) (h' : w.ownsRow B' e' s' v' n' xs') (hne : e ≠ e') (hg : w.grownBy w' v'.ownBlock) : w'.ownsRow B e s v n xs := by
  refine ⟨h.1, ?_⟩
  rcases h.2 with hn | ⟨g, cap, cur, rfl, hbg, hgg, rest⟩
  · exact .inl hn
  · refine .inr ⟨g, cap, cur, rfl, hbg, ?_, rest⟩
    rw [hg.block g (Array.getElem?_eq_some_iff.1 hgg).1 (fun e => own_other h h' hne e.symm)]
    exact hgg
theorem ownLater {w w' : World} {B : Nat} {e : TypeId} {s n : Nat} {v : Value} {xs : List Value} (h : w.ownsRow B e s v n xs) (hb : Below w.heap.size w w') : w'.ownsRow B e s v n xs := by
  refine ⟨h.1, ?_⟩
  rcases h.2 with hn | ⟨g, cap, cur, rfl, hbg, hgg, rest⟩
  · exact .inl hn
  · refine .inr ⟨g, cap, cur, rfl, hbg, ?_, rest⟩
    rw [hb.block g (Array.getElem?_eq_some_iff.1 hgg).1]
    exact hgg
theorem boxGrown {w w' : World} {g : Nat} {T : TypeId} {cs : List Value} {row : Option Nat} (h : BoxIs w g T cs) (hg : w.grownBy w' row) (hr : ∀ k, row = some k → ∃ c T' f, w.heap[k]? = some (.cells c T' f) ∧ T' ≠ T) : BoxIs w' g T cs := by
  refine h.keep (hg.block g h.lt fun e => ?_)
  obtain ⟨c, T', f, h1, h2⟩ := hr g e.symm
  have h3 : w.heap[g]? = some (.cells cs.toArray T (0, 0)) := h
  rw [h3] at h1
  simp only [Option.some.injEq, Obj.cells.injEq] at h1
  exact h2 h1.2.1.symm
theorem ownType {w : World} {B : Nat} {e : TypeId} {size n : Nat} {v : Value} {xs : List Value} (h : w.ownsRow B e size v n xs) (T : TypeId) (hne : e ≠ T) : ∀ g, v.ownBlock = some g → ∃ c T' f, w.heap[g]? = some (.cells c T' f) ∧ T' ≠ T := by
  intro g hg
  rcases h.2 with ⟨rfl, _⟩ | ⟨g', cap, cur, rfl, _, hgg, _⟩
  · simp [Value.ownBlock] at hg
  · simp [Value.ownBlock] at hg
    subst hg
    exact ⟨_, _, _, hgg, hne⟩
end Go.Proofs.YtinmoligjcajmaaGreatDoor
