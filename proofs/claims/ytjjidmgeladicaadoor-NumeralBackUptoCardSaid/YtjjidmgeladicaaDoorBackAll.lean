import Derived.Test.YtjjidmgeladicaaDoorFields
import Derived.Test.YtjjidmgeladicaaDoorFracPrint
import Derived.Test.YtjjidmgeladicaaDoorPrintMat
import Derived.Test.YtjjidmgeladicaaDoorRef6
import Derived.Test.YtjjidmgeladicaaDoorLaw2
import Derived.Test.YtjjidmgeladicaaDoorRowsEq
import Derived.Test.YtjjidmgeladicaaDoorSay
import Derived.Test.YtjjidmgeladicaaDoorMatAll
import Derived.Test.YtjjidmgeladicaaDoorAwake

/- The plain law of P2.8: what is written is read again. No condition. -/
namespace Go.Proofs.YtjjidmgeladicaaDoor

/-! ### ASCII -/

def AscB (l : List UInt8) : Prop := ∀ b, b ∈ l → b.toNat < 128
def natsB (l : List UInt8) : List Nat := l.map (·.toNat)

theorem runes_asc : ∀ (l : List UInt8), AscB l → runesB l = natsB l
  | [], _ => rfl
  | b :: l, h => by
    rw [runesB_low b l (h b (List.mem_cons_self ..)), runes_asc l fun x hx => h x (List.mem_cons_of_mem _ hx)]
    rfl

theorem runes_strOf (l : List UInt8) (h : AscB l) : runesOf (strOf l) = natsB l := by
  rw [runesOf_B]
  exact runes_asc l h

theorem AscB.append {a b : List UInt8} (h : AscB a) (k : AscB b) : AscB (a ++ b) := fun x hx => by
  rcases List.mem_append.1 hx with hx | hx
  · exact h x hx
  · exact k x hx
theorem AscB.cons {b : UInt8} {l : List UInt8} (h : b.toNat < 128) (k : AscB l) : AscB (b :: l) := fun x hx => by
  rcases List.mem_cons.1 hx with rfl | hx
  · exact h
  · exact k x hx
theorem natsB_append (a b : List UInt8) : natsB (a ++ b) = natsB a ++ natsB b := by simp [natsB]

/-! ### digits -/

def codeR (d : Nat) : Nat := if d < 10 then 48 + d else 87 + d

theorem chr_code : ∀ d, d < 36 → (chr d).toNat = codeR d := by decide
theorem code_worth : ∀ d, d < 36 → worth (codeR d) = d := by decide
theorem code_plain : ∀ d, d < 36 → isMinus (codeR d) = false ∧ isBar (codeR d) = false ∧ isGap (codeR d) = false ∧ codeR d ≠ 44 ∧ codeR d ≠ 59 ∧ codeR d ≠ 10 ∧ codeR d < 128 := by decide

theorem dig0_lt (b n : Nat) (hb : 2 ≤ b) : ∀ d, d ∈ dig0 b n → d < b := by
  induction n using Nat.strongRecOn with
  | ind n ih =>
    intro d hd
    by_cases h : n = 0
    · subst h; rw [dig0_zero] at hd; cases hd
    · rw [dig0_pos b n hb h] at hd
      rcases List.mem_append.1 hd with hd | hd
      · exact ih (n / b) (Nat.div_lt_self (by omega) (by omega)) d hd
      · simp only [List.mem_singleton] at hd
        rw [hd]
        exact Nat.mod_lt _ (by omega)

theorem of_dig0 (b n : Nat) (hb : 2 ≤ b) : ofDigits b (dig0 b n) = n := by
  induction n using Nat.strongRecOn with
  | ind n ih =>
    by_cases h : n = 0
    · subst h; rw [dig0_zero]; rfl
    · rw [dig0_pos b n hb h, ofDigits_snoc, ih (n / b) (Nat.div_lt_self (by omega) (by omega))]
      rw [Nat.mul_comm]
      exact Nat.div_add_mod n b

/-- a number's digits, as they are written -/
def digR (b n : Nat) : List Nat := if n = 0 then [0] else dig0 b n

theorem digR_ne (b n : Nat) (hb : 2 ≤ b) : digR b n ≠ [] := by
  unfold digR
  split
  · simp
  · rename_i h
    obtain ⟨d, l, e, _⟩ := dig0_head b n hb h
    rw [e]; simp
theorem digR_lt (b n : Nat) (hb : 2 ≤ b) : ∀ d, d ∈ digR b n → d < b := by
  unfold digR
  split
  · intro d hd; simp only [List.mem_singleton] at hd; omega
  · exact dig0_lt b n hb
theorem of_digR (b n : Nat) (hb : 2 ≤ b) : ofDigits b (digR b n) = n := by
  unfold digR
  split
  · rename_i h; rw [h]; simp [ofDigits]
  · exact of_dig0 b n hb

theorem digS_map (b n : Nat) : digS b n = (digR b n).map chr := by
  unfold digS digR
  split
  · rfl
  · rfl

theorem nats_dig (b n : Nat) (hb : 2 ≤ b) (hb2 : b ≤ 36) : natsB (digS b n) = (digR b n).map codeR := by
  rw [digS_map]
  unfold natsB
  rw [List.map_map]
  refine List.map_congr_left fun d hd => ?_
  exact chr_code d (by have := digR_lt b n hb d hd; omega)

theorem dig_asc (b n : Nat) (hb : 2 ≤ b) (hb2 : b ≤ 36) : AscB (digS b n) := by
  intro x hx
  rw [digS_map] at hx
  obtain ⟨d, hd, rfl⟩ := List.mem_map.1 hx
  have h1 := digR_lt b n hb d hd
  rw [chr_code d (by omega)]
  exact (code_plain d (by omega)).2.2.2.2.2.2

theorem worths_dig (b n : Nat) (hb : 2 ≤ b) (hb2 : b ≤ 36) : ((digR b n).map codeR).map worth = digR b n := by
  rw [List.map_map]
  conv => rhs; rw [← List.map_id (digR b n)]
  refine List.map_congr_left fun d hd => ?_
  exact code_worth d (by have := digR_lt b n hb d hd; omega)

theorem dig_neg (b n : Nat) (hb : 2 ≤ b) (hb2 : b ≤ 36) : negative ((digR b n).map codeR) = false := by
  have h := digR_lt b n hb
  cases hd : digR b n with
  | nil => rfl
  | cons d l =>
    rw [hd] at h
    exact (code_plain d (by have := h d (List.mem_cons_self ..); omega)).1

/-- what the digits of a number are read as -/
theorem parseU_dig (b n : Nat) (ng : Bool) (hb : 2 ≤ b) (hb2 : b ≤ 36) (hl : (digR b n).length ≤ 10000) : parseU b ng ((digR b n).map codeR) = (ng && decide (n ≠ 0), n, 0) := by
  unfold parseU
  have h1 : ((digR b n).map codeR).isEmpty = false := by
    have := digR_ne b n hb
    cases h : digR b n with
    | nil => exact absurd h this
    | cons x l => rfl
  have h2 : (((digR b n).map codeR).all fun r => decide (worth r < b)) = true := by
    rw [List.all_map, List.all_eq_true]
    intro d hd
    have := digR_lt b n hb d hd
    simp only [Function.comp, decide_eq_true_eq]
    rw [code_worth d (by omega)]
    exact this
  rw [h1, h2]
  rw [if_neg (by decide), if_neg (by rw [List.length_map]; omega), worths_dig b n hb hb2, of_digR b n hb]

theorem nats_int (b n : Nat) (neg : Bool) (hb : 2 ≤ b) (hb2 : b ≤ 36) : natsB (intS b neg n) = if neg = true ∧ n ≠ 0 then 45 :: (digR b n).map codeR else (digR b n).map codeR := by
  unfold intS
  split
  · show (45 : UInt8).toNat :: natsB (digS b n) = _
    rw [nats_dig b n hb hb2]; rfl
  · exact nats_dig b n hb hb2

theorem int_asc (b n : Nat) (neg : Bool) (hb : 2 ≤ b) (hb2 : b ≤ 36) : AscB (intS b neg n) := by
  unfold intS
  split
  · exact AscB.cons (by decide) (dig_asc b n hb hb2)
  · exact dig_asc b n hb hb2

/-- an integer that is written is read again -/
theorem parse_int (b n : Nat) (neg : Bool) (hb : 2 ≤ b) (hb2 : b ≤ 36) (hl : (digR b n).length ≤ 10000) : parseB b (runesOf (strOf (intS b neg n))) = (neg && decide (n ≠ 0), n, 0) := by
  rw [runes_strOf _ (int_asc b n neg hb hb2), nats_int b n neg hb hb2, parseB_U]
  by_cases h : neg = true ∧ n ≠ 0
  · obtain ⟨rfl, hn⟩ := h
    rw [if_pos ⟨rfl, hn⟩]
    have h1 : negative (45 :: (digR b n).map codeR) = true := rfl
    rw [h1, if_pos rfl, List.tail_cons, parseU_dig b n true hb hb2 hl]
  · rw [if_neg h, dig_neg b n hb hb2, if_neg (by decide), parseU_dig b n false hb hb2 hl]
    by_cases hn : n = 0
    · subst hn; simp
    · have : neg = false := by
        cases neg with
        | true => exact absurd ⟨rfl, hn⟩ h
        | false => rfl
      rw [this]

/-! ### fractions -/

theorem notBar_dig (b n : Nat) (hb : 2 ≤ b) (hb2 : b ≤ 36) : ∀ r, r ∈ (digR b n).map codeR → notBar r = true := by
  intro r hr
  obtain ⟨d, hd, rfl⟩ := List.mem_map.1 hr
  have := digR_lt b n hb d hd
  unfold notBar
  rw [(code_plain d (by omega)).2.1]; rfl

theorem bad_dig (n : Nat) : badB ((digR 10 n).map codeR) = false := by
  cases h : badB ((digR 10 n).map codeR) with
  | false => rfl
  | true =>
    exfalso
    rcases (badB_iff _).1 h with h1 | h1
    · exact digR_ne 10 n (by decide) (by simpa using h1)
    · apply h1
      intro r hr
      obtain ⟨d, hd, rfl⟩ := List.mem_map.1 hr
      have := digR_lt 10 n (by decide) d hd
      rw [code_worth d (by omega)]
      exact this

theorem nought_dig (n : Nat) (hn : n ≠ 0) : allNought ((digR 10 n).map codeR) = false := by
  unfold digR
  rw [if_neg hn]
  obtain ⟨d, l, e, h1, h2⟩ := dig0_head 10 n (by decide) hn
  rw [e]
  unfold allNought
  rw [List.map_cons, List.all_cons]
  have : (codeR d == 48) = false := by
    unfold codeR
    rw [if_pos (by omega)]
    simp
    omega
  rw [this, Bool.false_and]

/-- the upper part, as it is written -/
def upR (ng : Bool) (X : Nat) : List Nat := if ng = true ∧ X ≠ 0 then 45 :: (digR 10 X).map codeR else (digR 10 X).map codeR

theorem upR_notBar (ng : Bool) (X : Nat) : ∀ r, r ∈ upR ng X → notBar r = true := by
  unfold upR
  split
  · intro r hr
    rcases List.mem_cons.1 hr with rfl | hr
    · rfl
    · exact notBar_dig 10 X (by decide) (by decide) r hr
  · exact notBar_dig 10 X (by decide) (by decide)

theorem takeWhile_all {α : Type} (p : α → Bool) : ∀ (a b : List α), (∀ x, x ∈ a → p x = true) → (a ++ b).takeWhile p = a ++ b.takeWhile p
  | [], _, _ => rfl
  | x :: a, b, h => by
    rw [List.cons_append, List.takeWhile_cons, if_pos (h x (List.mem_cons_self ..)), takeWhile_all p a b fun y hy => h y (List.mem_cons_of_mem _ hy)]
    rfl

theorem fracR_parts (L U D : List Nat) (X Y : Nat) (ng : Bool) (hU : upper L = U) (hD : lower L = D) (hn : negative U = (ng && decide (X ≠ 0))) (hS : upS L = (digR 10 X).map codeR) (hDD : D = (digR 10 Y).map codeR) (hY : Y ≠ 0)
    (hl : (digR 10 X).length + (digR 10 Y).length ≤ 10000) : fracR L = (ng && decide (X ≠ 0), X, Y, 0) := by
  have hd : ¬ 10000 < digN L := by
    unfold digN
    rw [hS, hD, hDD, List.length_map, List.length_map]
    split <;> omega
  unfold fracR
  rw [hS, hD, hDD, bad_dig X, bad_dig Y, nought_dig Y hY, hU, hn, worths_dig 10 X (by decide) (by decide), worths_dig 10 Y (by decide) (by decide), of_digR 10 X (by decide), of_digR 10 Y (by decide)]
  simp only [Bool.false_eq_true, if_false, hd]
  cases ng <;> simp

theorem upR_neg (ng : Bool) (X : Nat) : negative (upR ng X) = (ng && decide (X ≠ 0)) ∧ (if negative (upR ng X) then (upR ng X).tail else upR ng X) = (digR 10 X).map codeR := by
  unfold upR
  by_cases h : ng = true ∧ X ≠ 0
  · rw [if_pos h]
    obtain ⟨rfl, hX⟩ := h
    have : negative (45 :: (digR 10 X).map codeR) = true := rfl
    rw [this]
    simp [hX]
  · rw [if_neg h, dig_neg 10 X (by decide) (by decide)]
    refine ⟨?_, by simp⟩
    cases ng with
    | false => rfl
    | true =>
      have : X = 0 := by
        by_cases h0 : X = 0
        · exact h0
        · exact absurd ⟨rfl, h0⟩ h
      rw [this]; rfl

theorem nats_frac (n1 n2 : Bool) (X Y : Nat) : natsB (fracS n1 n2 X Y) = upR (n1 != n2) X ++ (if Y = 1 then [] else 47 :: (digR 10 Y).map codeR) := by
  unfold fracS
  rw [natsB_append, nats_int 10 X _ (by decide) (by decide)]
  unfold upR
  congr 1
  split
  · rfl
  · show (47 : UInt8).toNat :: natsB (digS 10 Y) = _
    rw [nats_dig 10 Y (by decide) (by decide)]; rfl

theorem frac_asc (n1 n2 : Bool) (X Y : Nat) : AscB (fracS n1 n2 X Y) := by
  unfold fracS
  refine AscB.append (int_asc 10 X _ (by decide) (by decide)) ?_
  split
  · intro b hb; cases hb
  · exact AscB.cons (by decide) (dig_asc 10 Y (by decide) (by decide))

theorem dig_one : (digR 10 1).map codeR = [49] := by decide +kernel

/-- a fraction that is written is read again -/
theorem frac_back (n1 n2 : Bool) (X Y : Nat) (hY : Y ≠ 0) (hl : (digR 10 X).length + (digR 10 Y).length ≤ 10000) : fracR (natsB (fracS n1 n2 X Y)) = ((n1 != n2) && decide (X ≠ 0), X, Y, 0) := by
  rw [nats_frac]
  obtain ⟨hn, hs⟩ := upR_neg (n1 != n2) X
  have hnb := upR_notBar (n1 != n2) X
  by_cases h1 : Y = 1
  · subst h1
    rw [if_pos rfl, List.append_nil]
    have hU : upper (upR (n1 != n2) X) = upR (n1 != n2) X := by
      have := takeWhile_all notBar (upR (n1 != n2) X) [] hnb
      rw [List.append_nil] at this
      unfold upper
      rw [this]; simp
    have hD : lower (upR (n1 != n2) X) = [49] := by
      unfold lower
      rw [hU, if_neg (by omega)]
    refine fracR_parts _ _ _ X 1 _ hU hD hn ?_ dig_one.symm hY hl
    unfold upS
    rw [hU]
    exact hs
  · rw [if_neg h1]
    obtain ⟨L, hL⟩ : ∃ L, upR (n1 != n2) X ++ 47 :: (digR 10 Y).map codeR = L := ⟨_, rfl⟩
    have hU : upper L = upR (n1 != n2) X := by
      unfold upper
      rw [← hL, takeWhile_all notBar _ _ hnb]
      have : (47 :: (digR 10 Y).map codeR).takeWhile notBar = [] := by rw [List.takeWhile_cons, if_neg (by decide)]
      rw [this, List.append_nil]
    have hD : lower L = (digR 10 Y).map codeR := by
      unfold lower
      rw [hU, if_pos (by rw [← hL]; simp), ← hL]
      rw [List.drop_append, List.drop_of_length_le (by omega)]
      simp
    rw [hL]
    refine fracR_parts L _ _ X Y _ hU hD hn ?_ rfl hY hl
    unfold upS
    rw [hU]
    exact hs
end Go.Proofs.YtjjidmgeladicaaDoor

/- The plain law of P2.8, further: rows and matrices that are written are read again. No condition. -/
namespace Go.Proofs.YtjjidmgeladicaaDoor

/-! ### lists joined -/

def joinA (sep : List Nat) (L : List (List Nat)) : List Nat := match L with | [] => [] | x :: r => x ++ (r.map (sep ++ ·)).flatten

theorem joinA_snoc (sep : List Nat) (L : List (List Nat)) (x : List Nat) : joinA sep (L ++ [x]) = if L = [] then x else joinA sep L ++ sep ++ x := by
  cases L with
  | nil => simp [joinA]
  | cons y L => simp [joinA]

theorem natsB_join (sep : List UInt8) (L : List (List UInt8)) : natsB (joinS sep L) = joinA (natsB sep) (L.map natsB) := by
  cases L with
  | nil => rfl
  | cons x r =>
    simp only [joinS, joinA, List.map_cons, natsB_append]
    congr 1
    induction r with
    | nil => rfl
    | cons y r ih => simp only [List.map_cons, List.flatten_cons, natsB_append, ih]

theorem AscB.join {sep : List UInt8} {L : List (List UInt8)} (h : AscB sep) (k : ∀ l, l ∈ L → AscB l) : AscB (joinS sep L) := by
  cases L with
  | nil => intro b hb; cases hb
  | cons x r =>
    refine AscB.append (k x (List.mem_cons_self ..)) ?_
    intro b hb
    obtain ⟨l, hl, hb⟩ := List.mem_flatten.1 hb
    obtain ⟨y, hy, rfl⟩ := List.mem_map.1 hl
    exact AscB.append h (k y (List.mem_cons_of_mem _ hy)) b hb

/-! ### a row -/

def CalmR (r : Nat) : Prop := isGap r = false ∧ r ≠ 44 ∧ r ≠ 59 ∧ r ≠ 10

theorem words_run : ∀ (u : List Nat) (out : List (List Nat)) (w : List Nat), (∀ r, r ∈ u → isGap r = false) → u.foldl wStep (out, w) = (out, w ++ u)
  | [], out, w, _ => by simp
  | r :: u, out, w, h => by
    have e : wStep (out, w) r = (out, w ++ [r]) := if_neg (by rw [h r (List.mem_cons_self ..)]; decide)
    rw [List.foldl_cons, e, words_run u out _ fun x hx => h x (List.mem_cons_of_mem _ hx)]
    simp

theorem wStep_gap (out : List (List Nat)) (u : List Nat) (h : u ≠ []) : wStep (out, u) 32 = (out ++ [u], []) := by
  have e : wStep (out, u) 32 = (if u = [] then out else out ++ [u], []) := if_pos (by decide)
  rw [e, if_neg h]
theorem wStep_gap0 (out : List (List Nat)) : wStep (out, []) 32 = (out, []) := by
  have e : wStep (out, []) 32 = (if ([] : List Nat) = [] then out else out ++ [[]], []) := if_pos (by decide)
  rw [e, if_pos rfl]

theorem words_join (W : List (List Nat)) (h : ∀ u, u ∈ W → u ≠ [] ∧ ∀ r, r ∈ u → isGap r = false) : (joinA [32] W ++ [32]).foldl wStep ([], []) = (W, []) := by
  induction hn : W.length generalizing W with
  | zero =>
    obtain rfl : W = [] := List.eq_nil_of_length_eq_zero hn
    exact wStep_gap0 []
  | succ n ih =>
    obtain ⟨V, u, rfl⟩ : ∃ V u, W = V ++ [u] := by
      have hne : W ≠ [] := by intro e; rw [e] at hn; cases hn
      exact ⟨W.dropLast, W.getLast hne, (List.dropLast_concat_getLast hne).symm⟩
    have hV := ih V (fun x hx => h x (List.mem_append_left _ hx)) (by simpa using hn)
    obtain ⟨hu1, hu2⟩ := h u (List.mem_append_right _ (List.mem_singleton.2 rfl))
    rw [joinA_snoc]
    by_cases hv : V = []
    · subst hv
      rw [if_pos rfl, List.foldl_append, words_run u [] [] hu2, List.nil_append]
      exact wStep_gap [] u hu1
    · rw [if_neg hv, List.foldl_append, List.foldl_append, hV, words_run u V [] hu2, List.nil_append]
      exact wStep_gap V u hu1

theorem parted_none (p : Nat → Bool) : ∀ (L cur : List Nat), (∀ r, r ∈ L → p r = false) → partSt p cur L = ([], cur ++ L)
  | [], cur, _ => by simp [partSt]
  | r :: L, cur, h => by
    rw [partSt_cons, if_neg (by rw [h r (List.mem_cons_self ..)]; decide), parted_none p L _ fun x hx => h x (List.mem_cons_of_mem _ hx)]
    simp

def fracX (x : Fr) : Fr := fracL ((x.1 != x.2.2.1) && decide (natOf x.2.1 ≠ 0), natOf x.2.1, natOf x.2.2.2, 0)

/-- a fraction that may be written and read: its denominator is not 0, its digits are not too many -/
def OkF (x : Fr) : Prop := natOf x.2.2.2 ≠ 0 ∧ (digR 10 (natOf x.2.1)).length + (digR 10 (natOf x.2.2.2)).length ≤ 10000

theorem code_calm (d : Nat) (h : d < 36) : CalmR (codeR d) := by
  obtain ⟨_, _, h3, h4, h5, h6, _⟩ := code_plain d h
  exact ⟨h3, h4, h5, h6⟩

theorem dig_calm (b n : Nat) (hb : 2 ≤ b) (hb2 : b ≤ 36) : ∀ r, r ∈ (digR b n).map codeR → CalmR r := by
  intro r hr
  obtain ⟨d, hd, rfl⟩ := List.mem_map.1 hr
  exact code_calm d (by have := digR_lt b n hb d hd; omega)

theorem frac_calm (x : Fr) : (∀ r, r ∈ natsB (fracB x) → CalmR r) ∧ natsB (fracB x) ≠ [] := by
  unfold fracB
  rw [nats_frac]
  have hc45 : CalmR 45 := ⟨by decide, by decide, by decide, by decide⟩
  have hc47 : CalmR 47 := ⟨by decide, by decide, by decide, by decide⟩
  constructor
  · intro r hr
    rcases List.mem_append.1 hr with hr | hr
    · unfold upR at hr
      split at hr
      · rcases List.mem_cons.1 hr with rfl | hr
        · exact hc45
        · exact dig_calm 10 _ (by decide) (by decide) r hr
      · exact dig_calm 10 _ (by decide) (by decide) r hr
    · split at hr
      · cases hr
      · rcases List.mem_cons.1 hr with rfl | hr
        · exact hc47
        · exact dig_calm 10 _ (by decide) (by decide) r hr
  · intro e
    have h1 := (List.append_eq_nil_iff.1 e).1
    unfold upR at h1
    split at h1
    · cases h1
    · exact digR_ne 10 (natOf x.2.1) (by decide) (by simpa using h1)

theorem fracB_back (x : Fr) (h : OkF x) : fracR (natsB (fracB x)) = ((x.1 != x.2.2.1) && decide (natOf x.2.1 ≠ 0), natOf x.2.1, natOf x.2.2.2, 0) :=
  frac_back _ _ _ _ h.1 h.2

theorem fracsGo_back : ∀ (l : List Fr) (out : List Fr), (∀ x, x ∈ l → OkF x) → fracsGo out (l.map fun x => natsB (fracB x)) = (out ++ l.map fracX, 0)
  | [], out, _ => by simp [fracsGo]
  | x :: l, out, h => by
    rw [List.map_cons, fracsGo, fracB_back x (h x (List.mem_cons_self ..)), if_neg (by simp), fracsGo_back l _ fun y hy => h y (List.mem_cons_of_mem _ hy)]
    simp [fracX]

/-- a row's runes -/
def rowN (l : List Fr) : List Nat := joinA [32] (l.map fun x => natsB (fracB x))

theorem nats_row (l : List Fr) : natsB (rowB l) = rowN l := by
  unfold rowB rowN
  rw [natsB_join, List.map_map]
  rfl

theorem row_asc (l : List Fr) : AscB (rowB l) := by
  unfold rowB
  refine AscB.join (by intro b hb; simp only [List.mem_singleton] at hb; subst hb; decide) ?_
  intro y hy
  obtain ⟨x, _, rfl⟩ := List.mem_map.1 hy
  exact frac_asc _ _ _ _

theorem joinA_mem (sep : List Nat) (L : List (List Nat)) (r : Nat) (h : r ∈ joinA sep L) : r ∈ sep ∨ ∃ x, x ∈ L ∧ r ∈ x := by
  cases L with
  | nil => cases h
  | cons x l =>
    rcases List.mem_append.1 h with h | h
    · exact .inr ⟨x, List.mem_cons_self .., h⟩
    · obtain ⟨y, hy, hr⟩ := List.mem_flatten.1 h
      obtain ⟨z, hz, rfl⟩ := List.mem_map.1 hy
      rcases List.mem_append.1 hr with h | h
      · exact .inl h
      · exact .inr ⟨z, List.mem_cons_of_mem _ hz, h⟩

theorem rowN_mem (l : List Fr) (r : Nat) (h : r ∈ rowN l) : r ≠ 44 ∧ r ≠ 59 ∧ r ≠ 10 := by
  rcases joinA_mem _ _ r h with h | ⟨x, hx, hr⟩
  · simp only [List.mem_singleton] at h
    subst h
    exact ⟨by decide, by decide, by decide⟩
  · obtain ⟨y, _, rfl⟩ := List.mem_map.1 hx
    obtain ⟨_, h2, h3, h4⟩ := (frac_calm y).1 r hr
    exact ⟨h2, h3, h4⟩

theorem rowN_words (l : List Fr) : wordsL (rowN l) = l.map fun x => natsB (fracB x) := by
  unfold wordsL wordSt rowN
  rw [words_join]
  intro u hu
  obtain ⟨x, _, rfl⟩ := List.mem_map.1 hu
  exact ⟨(frac_calm x).2, fun r hr => ((frac_calm x).1 r hr).1⟩

theorem rowN_words2 (l : List Fr) : wordsL (32 :: rowN l) = l.map fun x => natsB (fracB x) := by
  rw [← rowN_words l]
  unfold wordsL wordSt
  rw [List.cons_append, List.foldl_cons, wStep_gap0]

theorem rowR_of (L : List Nat) (l : List Fr) (h : ∀ x, x ∈ l → OkF x) (hc : ∀ r, r ∈ L → r ≠ 44) (hw : wordsL L = l.map fun x => natsB (fracB x)) : rowR L = (l.map fracX, 0, 0) := by
  rw [← rowRef_eq]
  have hp : partedL isComma L = [L] := by
    unfold partedL
    rw [parted_none isComma L [] fun r hr => by simp [isComma, hc r hr]]
    simp
  unfold rowRef
  rw [hp, cellsGo, hw, fracsGo_back l [] h, if_neg (by simp), if_neg (by simp), cellsGo]
  simp

/-- a row that is written is read again -/
theorem row_back (l : List Fr) (h : ∀ x, x ∈ l → OkF x) : rowR (runesOf (strOf (rowB l))) = (l.map fracX, 0, 0) := by
  rw [runes_strOf _ (row_asc l), nats_row]
  exact rowR_of _ l h (fun r hr => (rowN_mem l r hr).1) (rowN_words l)

/-! ### a matrix -/

theorem mat_asc (m : List (List Fr)) : AscB (matB m) := by
  unfold matB
  refine AscB.join (by intro b hb; rcases List.mem_cons.1 hb with rfl | hb; · decide
                       simp only [List.mem_singleton] at hb; subst hb; decide) ?_
  intro y hy
  obtain ⟨x, _, rfl⟩ := List.mem_map.1 hy
  exact row_asc x

theorem part_join (c : List Nat) (rs : List (List Nat)) (hc : ∀ r, r ∈ c → isEnd r = false) (hr : ∀ x, x ∈ rs → ∀ r, r ∈ x → isEnd r = false) (cur : List Nat) :
    (partSt isEnd cur (joinA [59, 32] (c :: rs))).1 ++ [(partSt isEnd cur (joinA [59, 32] (c :: rs))).2] = (cur ++ c) :: rs.map (32 :: ·) := by
  have run : ∀ (c : List Nat) (cur T : List Nat), (∀ r, r ∈ c → isEnd r = false) → partSt isEnd cur (c ++ T) = partSt isEnd (cur ++ c) T := by
    intro c
    induction c with
    | nil => intro cur T _; simp
    | cons r c ih =>
      intro cur T h
      rw [List.cons_append, partSt_cons, if_neg (by rw [h r (List.mem_cons_self ..)]; decide), ih _ _ fun x hx => h x (List.mem_cons_of_mem _ hx)]
      simp
  induction rs generalizing c cur with
  | nil =>
    simp only [joinA, List.map_nil, List.flatten_nil, List.append_nil]
    rw [parted_none isEnd c cur hc]
    rfl
  | cons d rs ih =>
    have e : joinA [59, 32] (c :: d :: rs) = c ++ (59 :: 32 :: joinA [59, 32] (d :: rs)) := by simp [joinA]
    rw [e, run c cur _ hc, partSt_cons, if_pos (by decide)]
    have h2 : partSt isEnd [] (32 :: joinA [59, 32] (d :: rs)) = partSt isEnd [32] (joinA [59, 32] (d :: rs)) := by
      rw [partSt_cons, if_neg (by decide)]; rfl
    rw [h2]
    have := ih d (hr d (List.mem_cons_self ..)) (fun x hx => hr x (List.mem_cons_of_mem _ hx)) [32]
    simp only [List.cons_append]
    rw [this]
    simp

theorem matGo_back : ∀ (cs : List (List Nat)) (m : List (List Fr)) (out : List (List Fr)), cs.length = m.length → (∀ (i : Nat) (c : List Nat) (l : List Fr), cs[i]? = some c → m[i]? = some l → rowR c = (l.map fracX, 0, 0)) → matGo out cs = (out ++ m.map (·.map fracX), 0, 0, 0)
  | [], [], out, _, _ => by simp [matGo]
  | [], _ :: _, _, h, _ => by simp at h
  | _ :: _, [], _, h, _ => by simp at h
  | c :: cs, l :: m, out, hl, h => by
    have h0 := h 0 c l rfl rfl
    rw [matGo, h0, if_neg (by simp), matGo_back cs m _ (by simpa using hl) fun i c' l' h1 h2 => h (i + 1) c' l' (by simpa using h1) (by simpa using h2)]
    simp

/-- a matrix that is written is read again -/
theorem mat_back (m : List (List Fr)) (hm : m ≠ []) (h : ∀ l, l ∈ m → ∀ x, x ∈ l → OkF x) : matR (runesOf (strOf (matB m))) = (m.map (·.map fracX), 0, 0, 0) := by
  rw [runes_strOf _ (mat_asc m)]
  have e1 : natsB (matB m) = joinA [59, 32] (m.map rowN) := by
    unfold matB
    rw [natsB_join, List.map_map]
    congr 1
    exact List.map_congr_left fun l _ => nats_row l
  rw [e1]
  obtain ⟨l, m, rfl⟩ : ∃ l t, m = l :: t := by
    cases m with
    | nil => exact absurd rfl hm
    | cons l t => exact ⟨l, t, rfl⟩
  have hend : ∀ (l : List Fr) r, r ∈ rowN l → isEnd r = false := fun l r hr => by
    obtain ⟨_, h2, h3⟩ := rowN_mem l r hr
    simp [isEnd, h2, h3]
  unfold matR partedL
  rw [List.map_cons, part_join (rowN l) (m.map rowN) (hend l) (fun x hx => by obtain ⟨y, _, rfl⟩ := List.mem_map.1 hx; exact hend y) [], List.nil_append]
  rw [matGo_back _ (l :: m) [] (by simp) ?_]
  · rfl
  · intro i c l' hc hl'
    have hl2 : l' ∈ l :: m := List.mem_of_getElem? hl'
    cases i with
    | zero =>
      simp only [List.getElem?_cons_zero, Option.some.injEq] at hc hl'
      subst hc hl'
      exact rowR_of _ l (h l hl2) (fun r hr => (rowN_mem l r hr).1) (rowN_words l)
    | succ i =>
      simp only [List.getElem?_cons_succ, List.map_map, List.getElem?_map] at hc hl'
      rw [hl'] at hc
      simp only [Option.map_some, Function.comp, Option.some.injEq] at hc
      subst hc
      refine rowR_of _ l' (h l' hl2) (fun r hr => ?_) (rowN_words2 l')
      rcases List.mem_cons.1 hr with rfl | hr
      · decide
      · exact (rowN_mem l' r hr).1

/-! ### numbers that are not too long -/

theorem digR_len (b n k : Nat) (hb : 2 ≤ b) (hk : 1 ≤ k) (h : n < 2 ^ k) : (digR b n).length ≤ k := by
  unfold digR
  split
  · simpa using hk
  · exact dig0_len b n k hb h
end Go.Proofs.YtjjidmgeladicaaDoor

/- simileref01.Len, the law's many and upright. -/
namespace Go.Proofs.YtjjidmgeladicaaDoor
open Go.RowKit

/-- a number of bits that is enough -/
def LenSays (w w' : World) (e : Ending) (N : Nat) : Prop := ∃ n : Nat, e = .returned (.int .i64 (n : Nat)) ∧ N < 2 ^ n ∧ Below w.heap.size w w'

theorem top_bits (N m t j : Nat) (h : N < 4294967296 ^ m * (t + 1)) (hj : t / 2 ^ j = 0) : N < 2 ^ (32 * m + j) := by
  have h1 : t < 2 ^ j := by
    rcases Nat.div_eq_zero_iff.1 hj with h | h
    · have := Nat.two_pow_pos j; omega
    · exact h
  have e : (2 : Nat) ^ (32 * m + j) = 4294967296 ^ m * 2 ^ j := by rw [Nat.pow_add, Nat.pow_mul]
  rw [e]
  exact Nat.lt_of_lt_of_le h (Nat.mul_le_mul_left _ h1)

set_option maxRecDepth 100000 in
set_option maxHeartbeats 3200000 in
theorem len01_any (lo h1 : Nat) (v : Value) (xs : List Nat) (w : World) (h : Limbs lo h1 w v xs) (_hh1 : h1 ≤ w.heap.size) (hl : xs.length ≤ 100000000) :
    Calls Tryd.prog 46 #[v] w fun e w' => LenSays w w' e (natOf xs) := by
  have Q1 := hid (norm01_any lo h1 v xs w h (by omega))
  have hTl : (toL (natOf xs)).length ≤ xs.length := by
    rw [← trimL_toL xs h.lt]
    exact trimL_le xs
  have hTN := natOf_toL (natOf xs)
  have hTlt := toL_lt (natOf xs)
  obtain ⟨N, hN⟩ : ∃ N, natOf xs = N := ⟨_, rfl⟩
  rw [hN] at Q1 hTl hTN hTlt ⊢
  obtain ⟨T, hT⟩ : ∃ T, toL N = T := ⟨_, rfl⟩
  rw [hT] at Q1 hTl hTN hTlt
  have HTN := hid hTN
  have HTLT := hid hTlt
  obtain ⟨ad0, cap0, rfl⟩ := h.shape
  clear hT hN hTN hTlt h
  go_enter Tryd.func46, Tryd.ntmps46
  go_wp2_with fail
  refine Q1.out.mono ?_
  rintro e w1 ⟨r, rfl, hr, hb⟩
  obtain ⟨ad, cap, rfl, hc, _, hcell⟩ : ∃ ad cap, r = .slice ad T.length cap ∧ T.length ≤ cap ∧ True ∧ (∀ i, i < T.length → ∃ b off, ad = some ⟨b, off, none⟩ ∧ w1.cell? ⟨b, off + i, none⟩ = some (.int .u32 (T.getD i 0 : Nat))) := by
    obtain ⟨ad, cap, hv, hc, hn, hx, hne⟩ := hr
    refine ⟨ad, cap, hv, hc, trivial, fun i hi => ?_⟩
    obtain ⟨b, off, ha, _, _, hcell, _⟩ := hne (by intro e; subst e; simp at hi)
    exact ⟨b, off, ha, hcell i hi⟩
  have HB := hid hb
  have HCELL := hid hcell
  clear Q1 hr hb hcell
  by_cases h0 : T.length = 0
  · obtain rfl : T = [] := List.eq_nil_of_length_eq_zero h0
    clear h0
    go_wp2
    go_ret
    exact ⟨0, rfl, by rw [← HTN.out]; exact Nat.one_pos, HB.out⟩
  · obtain ⟨m, hm⟩ : ∃ m, T.length = m + 1 := ⟨T.length - 1, by omega⟩
    obtain ⟨b, off, rfl, hc9⟩ := HCELL.out m (by omega)
    obtain ⟨t, ht⟩ : ∃ t, T.getD m 0 = t := ⟨_, rfl⟩
    rw [ht] at hc9
    have htm : t ∈ T := by
      rw [← ht, List.getD_eq_getElem?_getD, List.getElem?_eq_getElem (by omega)]
      exact List.getElem_mem _
    have ht32 := HTLT.out t htm
    have hbig : N < 4294967296 ^ m * (t + 1) := by
      have h1 := natOf_take_succ T m
      rw [natOf_take_all T (m + 1) (by omega), HTN.out, ht] at h1
      have h2 := natOf_take_lt T m HTLT.out
      rw [h1, Nat.mul_add, Nat.mul_one, Nat.add_comm]
      exact Nat.add_lt_add_left h2 _
    have HBIG := hid hbig
    have hml : m ≤ 100000000 := by omega
    have f1 : ((((m + 1 : Nat) : Int)) == 0) = false := beq_eq_false_iff_ne.2 (by omega)
    rw [hm]
    clear h0 hm ht htm hbig HCELL HTLT HTN hc hTl hl
    go_wp2
    go_loop [3, 4] (fun nv yv => ∃ j : Nat, nv = .int .i64 ((32 * m + j : Nat)) ∧ yv = .int .u32 (t / 2 ^ j : Nat) ∧ (j ≤ 32 ∨ False)) (fun _ yv => (intOf yv).toNat)
    case atStart => exact ⟨0, by simp, by simp, by omega⟩
    case round =>
      obtain ⟨j, rfl, rfl, hj⟩ := hrel
      have hj2 : j ≤ 32 := by rcases hj with h | h; exact h; exact h.elim
      clear hj
      have hy32 : t / 2 ^ j < 4294967296 := Nat.lt_of_le_of_lt (Nat.div_le_self _ _) ht32
      have hnext : t / 2 ^ (j + 1) = t / 2 ^ j / 2 := by rw [Nat.pow_succ, Nat.div_div_eq_div_mul]
      have h32 : j = 32 → t / 2 ^ j = 0 := by rintro rfl; exact Nat.div_eq_of_lt (by simpa using ht32)
      obtain ⟨y, hy⟩ : ∃ y, t / 2 ^ j = y := ⟨_, rfl⟩
      rw [hy] at hy32 hnext h32 ⊢
      have HY := hid hy
      have HNEXT := hid hnext
      clear hy hnext
      by_cases hy0 : y = 0
      · subst hy0
        clear h32
        go_wp2
        go_ret
        refine ⟨32 * m + j, by simp, top_bits N m t j HBIG.out HY.out, HB.out⟩
      · have hj3 : j < 32 := by
          rcases Nat.lt_or_ge j 32 with h | h
          · exact h
          · exact absurd (h32 (by omega)) hy0
        have f2 : (0 : Int) < (y : Int) := by omega
        have HY32 := hid hy32
        clear h32 hy0 ht32 hy32
        go_wp2
        have e9 : ((y : Int) / 2 % 4294967296) = ((y / 2 : Nat) : Int) := by have := HY32.out; omega
        rw [e9]
        refine ⟨⟨j + 1, by go_num, by rw [HNEXT.out], .inl (by omega)⟩, ?_⟩
        have e8 : ∀ z : Nat, (intOf (Value.int IntKind.u32 (z : Nat))).toNat = z := fun z => by simp [intOf]
        rw [e8, e8]
        omega

/-- a row of integers' numbers -/
def IntsIn (w : World) (g : Nat) (vs : List (Bool × Value × List Nat)) : Prop :=
  ∀ i, i < vs.length → ∃ ng v xs, vs[i]? = some (ng, v, xs) ∧ w.cell? ⟨g, i * 2, none⟩ = some (.bool ng) ∧ w.cell? ⟨g, i * 2 + 1, none⟩ = some v ∧ (∃ lo hi, Limbs lo hi w v xs ∧ hi ≤ w.heap.size) ∧ xs.length ≤ 100000000

/-- a number of at most 4000 bits -/
def Small4 (N : Nat) : Prop := ∃ n, n ≤ 4000 ∧ N < 2 ^ n

/-- what the law's many tells -/
def ManySays (w w' : World) (e : Ending) (vs : List (Bool × Value × List Nat)) : Prop := ∃ b, e = .returned (.bool b) ∧ (b = false → ∀ x, x ∈ vs → Small4 (natOf x.2.2)) ∧ Below w.heap.size w w'

theorem many_any (g cap : Nat) (vs : List (Bool × Value × List Nat)) (w : World) (h : IntsIn w g vs) (hg : g < w.heap.size) (hn : vs.length ≤ 1000) :
    Calls Tryd.prog 20 #[.slice (some ⟨g, 0, none⟩) vs.length cap] w fun e w' => ManySays w w' e vs := by
  have HH := hid h
  clear h
  go_enter Tryd.func20, Tryd.ntmps20
  go_wp2
  go_loopw [7] (fun iv wr => ∃ k : Nat, iv = .int .i64 k ∧ k ≤ vs.length ∧ Below w.heap.size w wr ∧ ∀ i x, i < k → vs[i]? = some x → Small4 (natOf x.2.2)) (fun iv _ => vs.length - (intOf iv).toNat)
  case atStart => exact ⟨0, rfl, Nat.zero_le _, Below.refl _ _, fun i x hi => by omega⟩
  case round =>
    obtain ⟨k, rfl, hk, hbel, hall⟩ := hrel
    have HALL := hid hall
    have HBEL := hid hbel
    clear hall hbel
    by_cases hkl : k < vs.length
    · obtain ⟨ng, v, xs, hx, c0, c1, ⟨lo, hi, hL, hhi⟩, hxl⟩ := HH.out k hkl
      have d0 : wr.cell? ⟨g, k * 2, none⟩ = some (.bool ng) := (HBEL.out.cell (p := ⟨g, k * 2, none⟩) hg).trans c0
      have d1 : wr.cell? ⟨g, k * 2 + 1, none⟩ = some v := (HBEL.out.cell (p := ⟨g, k * 2 + 1, none⟩) hg).trans c1
      obtain ⟨hal, bx, hsz⟩ := boxA wr #[.bool ng, v] 40
      have hL2 := (hL.below HBEL.out hhi).below hal (Nat.le_trans hhi HBEL.out.size)
      have Q := hid (len01_any lo hi v xs (wr.alloc (.cells #[.bool ng, v] 40)) hL2 (by rw [hsz]; have := HBEL.out.size; omega) hxl)
      obtain ⟨e0, e1, j0, j1⟩ := bx.two
      have HX := hid hx
      obtain ⟨adv, cv, rfl⟩ := hL.shape
      have f1 : (k : Int) < (vs.length : Int) := by omega
      have hB2 := HBEL.out.alloc HBEL.out.size (.cells #[.bool ng, .slice adv xs.length cv] 40)
      have HB2 := hid hB2
      clear hL hL2 hx c0 c1 hal bx hsz hB2
      go_wp2_with fail
      refine Q.out.mono ?_
      clear Q
      rintro e w2 ⟨n, rfl, hn2, hb2⟩
      have HN2 := hid hn2
      have HB3 := hid (HB2.out.trans (hb2.mono HB2.out.size))
      clear hn2 hb2
      by_cases h4 : 4000 < n
      · have f2 : (4000 : Int) < (n : Int) := by omega
        go_wp2
        go_ret
        exact ⟨true, rfl, (fun e => by cases e), HB3.out⟩
      · have f2 : ¬ (4000 : Int) < (n : Int) := by omega
        have hlt : Small4 (natOf xs) := ⟨n, by omega, HN2.out⟩
        have HLT := hid hlt
        clear hlt h4
        go_wp2
        go_roundw
        case rel =>
          refine ⟨k + 1, by go_num, by omega, HB3.out, fun i x hi hix => ?_⟩
          rcases Nat.lt_or_ge i k with h | h
          · exact HALL.out i x h hix
          · obtain rfl : i = k := by omega
            rw [HX.out] at hix
            simp only [Option.some.injEq] at hix
            subst hix
            exact HLT.out
        case measure => simp [intOf]; omega
    · obtain rfl : k = vs.length := by omega
      go_wp2
      go_ret
      refine ⟨false, rfl, fun _ x hx => ?_, HBEL.out⟩
      obtain ⟨i, hi, rfl⟩ := List.mem_iff_getElem.1 hx
      exact HALL.out i _ hi (List.getElem?_eq_getElem hi)

theorem up_end {s lo hi : Nat} {w4 : World} {v : Value} {xs : List Nat} (a b c d : Value) (hb : s + 1 < lo) (h : Limbs lo hi w4 v xs) (h1 : s ≤ lo) (h2 : hi ≤ w4.heap.size) :
    Limbs s ((((w4.setCell ⟨s + 1, 0, none⟩ a).setCell ⟨s + 1, 1, none⟩ b).setCell ⟨s + 1, 2, none⟩ c).setCell ⟨s + 1, 3, none⟩ d).heap.size ((((w4.setCell ⟨s + 1, 0, none⟩ a).setCell ⟨s + 1, 1, none⟩ b).setCell ⟨s + 1, 2, none⟩ c).setCell ⟨s + 1, 3, none⟩ d) v xs := by
  have h1 := (((h.set ⟨s + 1, 0, none⟩ a (.inl hb)).set ⟨s + 1, 1, none⟩ b (.inl hb)).set ⟨s + 1, 2, none⟩ c (.inl hb)).set ⟨s + 1, 3, none⟩ d (.inl hb)
  exact h1.wide (by omega) (by simp [World.setCell]; omega)

/-- an upright fraction -/
def UpSays (w w' : World) (e : Ending) (x : Fr) : Prop := ∃ ad cap ad2 cap2, e = .returned (.agg #[.bool x.1, .slice ad x.2.1.length cap, .bool x.2.2.1, .slice ad2 x.2.2.2.length cap2]) ∧
  Limbs w.heap.size w'.heap.size w' (.slice ad x.2.1.length cap) x.2.1 ∧ Limbs w.heap.size w'.heap.size w' (.slice ad2 x.2.2.2.length cap2) x.2.2.2 ∧ Below w.heap.size w w'

set_option maxRecDepth 100000 in
set_option maxHeartbeats 3200000 in
theorem upright_any (lo h1 lo2 h2 : Nat) (n1 n2 : Bool) (q p : Value) (xs ys : List Nat) (w : World) (hq : Limbs lo h1 w q xs) (hh1 : h1 ≤ w.heap.size) (hlx : xs.length ≤ 100000000) (hp : Limbs lo2 h2 w p ys) (hh2 : h2 ≤ w.heap.size) (hly : ys.length ≤ 100000000) (hY : natOf ys ≠ 0) :
    Calls Tryd.prog 29 #[.agg #[.bool n1, q, .bool n2, p]] w fun e w' => UpSays w w' e (fracX (n1, xs, n2, ys)) := by
  obtain ⟨adq, capq, rfl⟩ := hq.shape
  obtain ⟨adp, capp, rfl⟩ := hp.shape
  have hx1 : fracX (n1, xs, n2, ys) = ((n1 != n2) && decide (natOf xs ≠ 0), toL (natOf xs), false, toL (natOf ys)) := rfl
  rw [hx1]
  clear hx1
  have b1 := BoxIs.new w #[.bool n1, .slice adq xs.length capq, .bool n2, .slice adp ys.length capp] 42
  have b2 := BoxIs.new (w.alloc (.cells #[.bool n1, .slice adq xs.length capq, .bool n2, .slice adp ys.length capp] 42)) #[.bool false, .slice none 0 0, .bool false, .slice none 0 0] 42
  have hB := ((Below.refl w.heap.size w).alloc (Nat.le_refl _) (.cells #[.bool n1, .slice adq xs.length capq, .bool n2, .slice adp ys.length capp] 42)).alloc (by simp) (.cells #[.bool false, .slice none 0 0, .bool false, .slice none 0 0] 42)
  obtain ⟨W, hW⟩ : ∃ W, (w.alloc (.cells #[.bool n1, .slice adq xs.length capq, .bool n2, .slice adp ys.length capp] 42)).alloc (.cells #[.bool false, .slice none 0 0, .bool false, .slice none 0 0] 42) = W := ⟨_, rfl⟩
  have b1' := b1.alloc (.cells #[.bool false, .slice none 0 0, .bool false, .slice none 0 0] 42)
  rw [World.size_alloc] at b2
  have hWs : W.heap.size = w.heap.size + 2 := by rw [← hW]; simp
  rw [hW] at b1' b2 hB
  have q1 := norm02_any lo h1 n1 _ xs W (hq.below hB hh1) (by omega) (by omega)
  have hqW := hq.below hB hh1
  have hpW := hp.below hB hh2
  have hxl : (toL (natOf xs)).length ≤ xs.length := by
    rw [← trimL_toL xs hqW.lt]
    exact trimL_le xs
  obtain ⟨X, hX⟩ : ∃ X, natOf xs = X := ⟨_, rfl⟩
  rw [hX] at q1 hxl ⊢
  have HXL := hid hxl
  clear hxl
  have Q1 := hid q1
  have HPW := hid hpW
  have HB := hid hB
  have HWS := hid hWs
  obtain ⟨z1, hz1⟩ : ∃ z1, (n1 && decide (X ≠ 0)) = z1 := ⟨_, rfl⟩
  rw [hz1] at Q1
  have HZ1 := hid hz1
  have HY := hid hY
  clear q1 hq hp hqW hpW hX hz1 hY b1 hB
  obtain ⟨⟨c0, c1, c2, c3⟩, _⟩ := b1'.four
  obtain ⟨_, f0, f1, f2, f3⟩ := b2.four
  go_enter Tryd.func29, Tryd.ntmps29
  go_wp2_with fail
  clear hW
  refine Q1.out.mono ?_
  clear Q1
  rintro e w1 ⟨r, rfl, hr, hb1⟩
  obtain ⟨adr, capr, rfl⟩ := hr.shape
  obtain ⟨hal1, bx1, hsz1⟩ := boxA w1 #[.bool z1, .slice adr (toL X).length capr] 40
  have hs1 := hb1.size
  have hC1 := hb1.trans (hal1.mono hs1)
  have hr1 := hr.below hal1 (Nat.le_refl _)
  obtain ⟨W1, hW1⟩ : ∃ W1, w1.alloc (.cells #[.bool z1, .slice adr (toL X).length capr] 40) = W1 := ⟨_, rfl⟩
  have q2 := sign02_any lo2 h2 n2 _ ys W1 (by rw [← hW1]; exact (HPW.out.below hb1 (by omega)).below hal1 (by omega)) (by rw [← hW1, hsz1]; omega) (by omega)
  rw [if_neg HY.out] at q2
  rw [hW1] at hC1 hr1 bx1 hsz1
  have hr2 := hr1.wide (lo' := W.heap.size) (hi' := W1.heap.size) (by omega) (by omega)
  obtain ⟨gx, hgx⟩ : ∃ gx, w1.heap.size = gx := ⟨_, rfl⟩
  rw [hgx] at bx1 hsz1 hs1
  have hgx2 : w.heap.size + 2 ≤ gx := by have := HWS.out; omega
  have Q2 := hid q2
  have HC1 := hid hC1
  have HR2 := hid hr2
  have HBX1 := hid bx1
  have b1a := hid (b1'.later hC1)
  have b2a := hid (b2.later hC1)
  clear q2 hC1 hr hr1 hr2 hb1 hal1 c0 c1 c2 c3 f0 f1 f2 f3
  obtain ⟨⟨k0, k1, k2, k3⟩, _⟩ := b1a.out.four
  go_wp2_with fail
  clear hW1 hgx
  refine Q2.out.mono ?_
  clear Q2 k0 k1 k2 k3
  rintro e w2 ⟨rfl, hb2⟩
  have HB2 := hid hb2
  have hs2 := hb2.size
  have b1b := hid (b1a.out.later hb2)
  have b2b := hid (b2a.out.later hb2)
  have bxb := hid (HBX1.out.later hb2)
  have HR3 := hid (HR2.out.below hb2 (Nat.le_refl _))
  have HC2 := hid (HC1.out.trans (hb2.mono HC1.out.size))
  clear hb2 b1a b2a HBX1 HR2 HC1
  obtain ⟨W1s, hW1s⟩ : ∃ n, W1.heap.size = n := ⟨_, rfl⟩
  rw [hW1s] at hsz1 hs2 HR3
  clear hW1s
  have hQ3 : ∀ w3, Below w2.heap.size w2 w3 → True := fun _ _ => trivial
  clear hQ3
  have Q3 := hid (neg02_any W.heap.size W1s z1 _ (toL X) w2 HR3.out hs2 (by
    have h1 := hlx
    have h2 : (toL X).length ≤ xs.length := HXL.out
    omega))
  rw [natOf_toL] at Q3
  obtain ⟨⟨l0, l1⟩, j0, j1⟩ := (show (w2.cell? ⟨gx, 0, none⟩ = some (.bool z1) ∧ w2.cell? ⟨gx, 1, none⟩ = some (.slice adr (toL X).length capr)) ∧ w2.frozen? ⟨gx, 0, none⟩ = false ∧ w2.frozen? ⟨gx, 1, none⟩ = false by
    obtain ⟨a, b, c, d⟩ := bxb.out.two
    exact ⟨⟨a, b⟩, c, d⟩)
  obtain ⟨z3, hz3⟩ : ∃ z3, (!z1 && decide (X ≠ 0)) = z3 := ⟨_, rfl⟩
  rw [hz3] at Q3
  have HZ3 := hid hz3
  clear hz3
  have hz2 : (if n2 = true then z3 else z1) = ((n1 != n2) && decide (X ≠ 0)) := by
    have h1 := HZ1.out
    have h3 := HZ3.out
    rw [← h3, ← h1]
    cases n1 <;> cases n2 <;> cases decide (X ≠ 0) <;> rfl
  have HZ2 := hid hz2
  clear hz2
  cases n2
  · go_upto_region 4 with (fail)
    have HFIN : Hid (BoxIs w2 gx 40 [.bool z1, .slice adr (toL X).length capr] ∧ Limbs W.heap.size w2.heap.size w2 (.slice adr (toL X).length capr) (toL X) ∧ Below W.heap.size W w2 ∧ BoxIs w2 w.heap.size 42 [.bool n1, .slice adq xs.length capq, .bool false, .slice adp ys.length capp] ∧ BoxIs w2 (w.heap.size + 1) 42 [.bool false, .slice none 0 0, .bool false, .slice none 0 0]) :=
      ⟨bxb.out, HR3.out.wide (Nat.le_refl _) hs2, HC2.out, b1b.out, b2b.out⟩
    obtain ⟨WD, hWD⟩ : ∃ WD, w2 = WD := ⟨_, rfl⟩
    rw [hWD] at HFIN ⊢
    clear hWD
    obtain ⟨gbx, gHR, gHC, gb1, gb2⟩ := HFIN.out
    have hWDs := gHC.size
    have q4 := norm02_any lo2 h2 false _ ys WD.drew ((HPW.out.below gHC (by omega)).keep fun _ _ _ => rfl) (by show h2 ≤ WD.heap.size; omega) (by omega)
    rw [Bool.false_and] at q4
    have Q4 := hid q4
    obtain ⟨⟨k0, k1, k2, k3⟩, _⟩ := gb1.four
    obtain ⟨y0, y1, _⟩ := gbx.two
    obtain ⟨_, v0, v1, v2, v3⟩ := gb2.four
    have hgxl := gbx.lt
    have hb2l := gb2.lt
    have bf4 : ∀ w4, Below WD.drew.heap.size WD.drew w4 → (BoxIs w4 gx 40 [.bool z1, .slice adr (toL X).length capr] ∧ BoxIs w4 (w.heap.size + 1) 42 [.bool false, .slice none 0 0, .bool false, .slice none 0 0] ∧ Limbs W.heap.size WD.heap.size w4 (.slice adr (toL X).length capr) (toL X)) := fun w4 h =>
      ⟨(h.block gx hgxl).trans gbx, (h.block (w.heap.size + 1) hb2l).trans gb2, gHR.keep fun b _ h2 => h.block b h2⟩
    have BF4 := hid bf4
    have GHC := hid gHC
    clear q4 bf4 gbx gHR gHC gb1 gb2 HFIN bxb HR3 HC2 b1b b2b HB2 Q3 l0 l1 j0 j1
    go_region_with ((go_at_call 24; refine Q4.out.mono ?_; rintro e w4 ⟨r4, rfl, hr4, hb4⟩; obtain ⟨ad4, cap4, rfl⟩ := hr4.shape; obtain ⟨bxw, b2w, _⟩ := BF4.out w4 hb4; obtain ⟨x0, x1, _⟩ := bxw.two; obtain ⟨⟨s0, s1, s2, s3⟩, t0, t1, t2, t3⟩ := b2w.four))
    all_goals
      obtain ⟨_, _, hLx⟩ := BF4.out w4 hb4
      have hs4 : WD.heap.size ≤ w4.heap.size := hb4.size
      have hW9 : ∀ a b c d, BoxIs ((((w4.setCell ⟨w.heap.size + 1, 0, none⟩ a).setCell ⟨w.heap.size + 1, 1, none⟩ b).setCell ⟨w.heap.size + 1, 2, none⟩ c).setCell ⟨w.heap.size + 1, 3, none⟩ d) (w.heap.size + 1) 42 [a, b, c, d] := fun a b c d => (((b2w.set 0 a).set 1 b).set 2 c).set 3 d
      obtain ⟨⟨p0, p1, p2, p3⟩, _⟩ := (hW9 (.bool z1) (.slice adr (toL X).length capr) (.bool false) (.slice ad4 (toL (natOf ys)).length cap4)).four
      have HLX := hid hLx
      have HR4 := hid hr4
      have HB4 := hid hb4
      clear hLx hr4 hb4 bxw b2w x0 x1 hW9 s0 s1 s2 s3
      go_wp2
      refine bodyPost_ret (v := .agg #[.bool z1, .slice adr (toL X).length capr, .bool false, .slice ad4 (toL (natOf ys)).length cap4]) (by simp [results, Tryd.results29, go_sem, p0, p1, p2, p3]) rfl ?_
      have hz9 := HZ2.out
      simp only [Bool.false_eq_true, if_false] at hz9
      have hWS := HWS.out
      have hGS := GHC.out.size
      have hdr : WD.drew.heap.size = WD.heap.size := rfl
      refine ⟨adr, capr, ad4, cap4, by rw [hz9], up_end _ _ _ _ (by omega) HLX.out (by omega) hs4, up_end _ _ _ _ (by omega) HR4.out (by omega) (Nat.le_refl _), ?_⟩
      have hb9 : Below w.heap.size w w4 := (HB.out.trans (GHC.out.mono (by omega))).drew.trans (HB4.out.mono (by omega))
      exact (((hb9.setCell (p := ⟨w.heap.size + 1, 0, none⟩) (by show w.heap.size ≤ w.heap.size + 1; omega) _).setCell (p := ⟨w.heap.size + 1, 1, none⟩) (by show w.heap.size ≤ w.heap.size + 1; omega) _).setCell (p := ⟨w.heap.size + 1, 2, none⟩) (by show w.heap.size ≤ w.heap.size + 1; omega) _).setCell (p := ⟨w.heap.size + 1, 3, none⟩) (by show w.heap.size ≤ w.heap.size + 1; omega) _
  · go_upto_region 4 with (first | (go_at_call 55; refine Q3.out.mono ?_; rintro e w3 ⟨r3, rfl, hr3, hb3⟩; obtain ⟨ad3, cap3, rfl⟩ := hr3.shape; have bx3 := bxb.out.later hb3; obtain ⟨l3, l4, j3, j4⟩ := bx3.two))
    have hs3 := hb3.size
    have hne1 : w.heap.size ≠ gx := by omega
    have hne2 : w.heap.size + 1 ≠ gx := by omega
    have HFIN : Hid (BoxIs ((w3.setCell ⟨gx, 0, none⟩ (.bool z3)).setCell ⟨gx, 1, none⟩ (.slice ad3 (toL X).length cap3)) gx 40 [.bool z3, .slice ad3 (toL X).length cap3] ∧ Limbs W.heap.size ((w3.setCell ⟨gx, 0, none⟩ (.bool z3)).setCell ⟨gx, 1, none⟩ (.slice ad3 (toL X).length cap3)).heap.size ((w3.setCell ⟨gx, 0, none⟩ (.bool z3)).setCell ⟨gx, 1, none⟩ (.slice ad3 (toL X).length cap3)) (.slice ad3 (toL X).length cap3) (toL X) ∧
        Below W.heap.size W ((w3.setCell ⟨gx, 0, none⟩ (.bool z3)).setCell ⟨gx, 1, none⟩ (.slice ad3 (toL X).length cap3)) ∧ BoxIs ((w3.setCell ⟨gx, 0, none⟩ (.bool z3)).setCell ⟨gx, 1, none⟩ (.slice ad3 (toL X).length cap3)) w.heap.size 42 [.bool n1, .slice adq xs.length capq, .bool true, .slice adp ys.length capp] ∧ BoxIs ((w3.setCell ⟨gx, 0, none⟩ (.bool z3)).setCell ⟨gx, 1, none⟩ (.slice ad3 (toL X).length cap3)) (w.heap.size + 1) 42 [.bool false, .slice none 0 0, .bool false, .slice none 0 0]) := by
      refine ⟨(bx3.set 0 _).set 1 _, ?_, ?_, ?_, ?_⟩
      · have h1 := ((hr3.set ⟨gx, 0, none⟩ (.bool z3) (.inl (by show gx < w2.heap.size; omega))).set ⟨gx, 1, none⟩ (.slice ad3 (toL X).length cap3) (.inl (by show gx < w2.heap.size; omega)))
        refine h1.wide (by have := HC2.out.size; omega) (by simp [World.setCell])
      · exact ((HC2.out.trans (hb3.mono HC2.out.size)).setCell (p := ⟨gx, 0, none⟩) (by show W.heap.size ≤ gx; omega) _).setCell (p := ⟨gx, 1, none⟩) (by show W.heap.size ≤ gx; omega) _
      · exact ((b1b.out.later hb3).other ⟨gx, 0, none⟩ _ hne1).other ⟨gx, 1, none⟩ _ hne1
      · exact ((b2b.out.later hb3).other ⟨gx, 0, none⟩ _ hne2).other ⟨gx, 1, none⟩ _ hne2
    obtain ⟨WD, hWD⟩ : ∃ WD, ((w3.setCell ⟨gx, 0, none⟩ (.bool z3)).setCell ⟨gx, 1, none⟩ (.slice ad3 (toL X).length cap3)) = WD := ⟨_, rfl⟩
    rw [hWD] at HFIN ⊢
    clear hWD
    obtain ⟨gbx, gHR, gHC, gb1, gb2⟩ := HFIN.out
    have hWDs := gHC.size
    have q4 := norm02_any lo2 h2 false _ ys WD.drew ((HPW.out.below gHC (by omega)).keep fun _ _ _ => rfl) (by show h2 ≤ WD.heap.size; omega) (by omega)
    rw [Bool.false_and] at q4
    have Q4 := hid q4
    obtain ⟨⟨k0, k1, k2, k3⟩, _⟩ := gb1.four
    obtain ⟨y0, y1, _⟩ := gbx.two
    obtain ⟨_, v0, v1, v2, v3⟩ := gb2.four
    have hgxl := gbx.lt
    have hb2l := gb2.lt
    have bf4 : ∀ w4, Below WD.drew.heap.size WD.drew w4 → (BoxIs w4 gx 40 [.bool z3, .slice ad3 (toL X).length cap3] ∧ BoxIs w4 (w.heap.size + 1) 42 [.bool false, .slice none 0 0, .bool false, .slice none 0 0] ∧ Limbs W.heap.size WD.heap.size w4 (.slice ad3 (toL X).length cap3) (toL X)) := fun w4 h =>
      ⟨(h.block gx hgxl).trans gbx, (h.block (w.heap.size + 1) hb2l).trans gb2, gHR.keep fun b _ h2 => h.block b h2⟩
    have BF4 := hid bf4
    have GHC := hid gHC
    clear q4 bf4 gbx gHR gHC gb1 gb2 HFIN bxb HR3 HC2 b1b b2b HB2 Q3 l0 l1 j0 j1 l3 l4 j3 j4 bx3 hr3 hb3
    go_region_with ((go_at_call 24; refine Q4.out.mono ?_; rintro e w4 ⟨r4, rfl, hr4, hb4⟩; obtain ⟨ad4, cap4, rfl⟩ := hr4.shape; obtain ⟨bxw, b2w, _⟩ := BF4.out w4 hb4; obtain ⟨x0, x1, _⟩ := bxw.two; obtain ⟨⟨s0, s1, s2, s3⟩, t0, t1, t2, t3⟩ := b2w.four))
    all_goals
      obtain ⟨_, _, hLx⟩ := BF4.out w4 hb4
      have hs4 : WD.heap.size ≤ w4.heap.size := hb4.size
      have hW9 : ∀ a b c d, BoxIs ((((w4.setCell ⟨w.heap.size + 1, 0, none⟩ a).setCell ⟨w.heap.size + 1, 1, none⟩ b).setCell ⟨w.heap.size + 1, 2, none⟩ c).setCell ⟨w.heap.size + 1, 3, none⟩ d) (w.heap.size + 1) 42 [a, b, c, d] := fun a b c d => (((b2w.set 0 a).set 1 b).set 2 c).set 3 d
      obtain ⟨⟨p0, p1, p2, p3⟩, _⟩ := (hW9 (.bool z3) (.slice ad3 (toL X).length cap3) (.bool false) (.slice ad4 (toL (natOf ys)).length cap4)).four
      have HLX := hid hLx
      have HR4 := hid hr4
      have HB4 := hid hb4
      clear hLx hr4 hb4 bxw b2w x0 x1 hW9 s0 s1 s2 s3
      go_wp2
      refine bodyPost_ret (v := .agg #[.bool z3, .slice ad3 (toL X).length cap3, .bool false, .slice ad4 (toL (natOf ys)).length cap4]) (by simp [results, Tryd.results29, go_sem, p0, p1, p2, p3]) rfl ?_
      have hz9 := HZ2.out
      simp only [if_true] at hz9
      have hWS := HWS.out
      have hGS := GHC.out.size
      have hdr : WD.drew.heap.size = WD.heap.size := rfl
      refine ⟨ad3, cap3, ad4, cap4, by rw [hz9], up_end _ _ _ _ (by omega) HLX.out (by omega) hs4, up_end _ _ _ _ (by omega) HR4.out (by omega) (Nat.le_refl _), ?_⟩
      have hb9 : Below w.heap.size w w4 := (HB.out.trans (GHC.out.mono (by omega))).drew.trans (HB4.out.mono (by omega))
      exact (((hb9.setCell (p := ⟨w.heap.size + 1, 0, none⟩) (by show w.heap.size ≤ w.heap.size + 1; omega) _).setCell (p := ⟨w.heap.size + 1, 1, none⟩) (by show w.heap.size ≤ w.heap.size + 1; omega) _).setCell (p := ⟨w.heap.size + 1, 2, none⟩) (by show w.heap.size ≤ w.heap.size + 1; omega) _).setCell (p := ⟨w.heap.size + 1, 3, none⟩) (by show w.heap.size ≤ w.heap.size + 1; omega) _
end Go.Proofs.YtjjidmgeladicaaDoor

/- What the law similelaw02.NumeralBack leans on. -/
namespace Go.Proofs.YtjjidmgeladicaaDoor
open Go.RowKit

theorem sameI_true (lo h1 lo2 h2 : Nat) (ng : Bool) (v v2 : Value) (xs : List Nat) (w : World) (h : Limbs lo h1 w v xs) (hhi : h1 ≤ w.heap.size) (hl : xs.length ≤ 4398046511104) (h' : Limbs lo2 h2 w v2 xs) (hhi2 : h2 ≤ w.heap.size) :
    Calls Tryd.prog 23 #[.agg #[.bool ng, v], .agg #[.bool ng, v2]] w fun e w' => e = .returned (.bool true) ∧ Below w.heap.size w w' := by
  have := same02_any lo h1 lo2 h2 ng ng v v2 xs xs w h hhi hl h' hhi2
  simpa using this

theorem intsIn1 {w : World} {g : Nat} {T : TypeId} {a : Bool} {u : Value} {xs : List Nat} (h : BoxIs w g T [.bool a, u]) (hL : ∃ lo hi, Limbs lo hi w u xs ∧ hi ≤ w.heap.size) (hl : xs.length ≤ 100000000) : IntsIn w g [(a, u, xs)] := by
  obtain ⟨c0, c1, _⟩ := h.two
  intro i hi
  match i, hi with
  | 0, _ => exact ⟨a, u, xs, rfl, by simpa using c0, by simpa using c1, hL, hl⟩

theorem intsIn2 {w : World} {g : Nat} {T : TypeId} {a b : Bool} {u v : Value} {xs ys : List Nat} (h : BoxIs w g T [.bool a, u, .bool b, v]) (hL : ∃ lo hi, Limbs lo hi w u xs ∧ hi ≤ w.heap.size) (hl : xs.length ≤ 100000000)
    (hM : ∃ lo hi, Limbs lo hi w v ys ∧ hi ≤ w.heap.size) (hm : ys.length ≤ 100000000) : IntsIn w g [(a, u, xs), (b, v, ys)] := by
  obtain ⟨⟨c0, c1, c2, c3⟩, _⟩ := h.four
  intro i hi
  match i, hi with
  | 0, _ => exact ⟨a, u, xs, rfl, by simpa using c0, by simpa using c1, hL, hl⟩
  | 1, _ => exact ⟨b, v, ys, rfl, by simpa using c2, by simpa using c3, hM, hm⟩

theorem small_len (b N : Nat) (hb : 2 ≤ b) (h : Small4 N) : (digR b N).length ≤ 4001 := by
  obtain ⟨n, hn, hN⟩ := h
  have := digR_len b N (n + 1) hb (by omega) (Nat.lt_of_lt_of_le hN (Nat.pow_le_pow_right (by decide) (Nat.le_succ n)))
  omega

theorem int_size (b N : Nat) (neg : Bool) (hb : 2 ≤ b) (h : Small4 N) : (strOf (intS b neg N)).size ≤ 5000 := by
  have h1 := small_len b N hb h
  have e : (strOf (intS b neg N)).size = (intS b neg N).length := by simp [strOf, ByteArray.size]
  rw [e]
  unfold intS
  have h2 : (digS b N).length = (digR b N).length := by rw [digS_map, List.length_map]
  split
  · simp only [List.length_cons]; omega
  · omega

theorem okF_of {x : Fr} (h1 : Small4 (natOf x.2.1)) (h2 : Small4 (natOf x.2.2.2)) (h3 : natOf x.2.2.2 ≠ 0) : OkF x := by
  have a := small_len 10 _ (by decide) h1
  have b := small_len 10 _ (by decide) h2
  exact ⟨h3, by omega⟩

theorem int_back (s : ByteArray) (w : World) (hs : s.size ≤ 5000) (z : Bool) (N : Nat) (hx : parseB 10 (runesOf s) = (z, N, 0)) :
    Calls Tryd.prog 21 #[.string s] w fun e w' => Below w.heap.size w w' ∧ ∃ ad cap, e = .returned (.tuple #[.agg #[.bool z, .slice ad (toL N).length cap], .int .i64 0]) ∧ Limbs w.heap.size w'.heap.size w' (.slice ad (toL N).length cap) (toL N) := by
  have h := int_any s w (by omega)
  rw [int_says, hx] at h
  refine h.mono ?_
  rintro e w' ⟨hb, q, rfl, hq⟩
  obtain ⟨ad, cap, rfl⟩ := hq.shape
  exact ⟨hb, ad, cap, rfl, hq⟩

theorem base_back (s : ByteArray) (b : Nat) (w : World) (hs : s.size ≤ 5000) (hb2 : 2 ≤ b) (hb36 : b ≤ 36) (z : Bool) (N : Nat) (hx : parseB b (runesOf s) = (z, N, 0)) :
    Calls Tryd.prog 26 #[.string s, .int .i64 (b : Nat)] w fun e w' => Below w.heap.size w w' ∧ ∃ ad cap, e = .returned (.tuple #[.agg #[.bool z, .slice ad (toL N).length cap], .int .i64 0]) ∧ Limbs w.heap.size w'.heap.size w' (.slice ad (toL N).length cap) (toL N) := by
  have h := fromBase_any s b w (by omega) hb2 hb36
  rw [hx] at h
  refine h.mono ?_
  rintro e w' ⟨hb, q, rfl, hq⟩
  obtain ⟨ad, cap, rfl⟩ := hq.shape
  exact ⟨hb, ad, cap, rfl, hq⟩

theorem back_eq (w W0 wr : World) (neg z : Bool) (v : Value) (xs T : List Nat) (g : Nat) (ad : Option Addr) (cap : Nat) (hz : (neg && decide (natOf xs ≠ 0)) = z) (hT : toL (natOf xs) = T) (h0 : Limbs 0 w.heap.size w v xs) (hl : xs.length ≤ 1048576)
    (hb0 : Below w.heap.size w W0) (hb : Below W0.heap.size W0 wr) (b0 : BoxIs wr w.heap.size 40 [.bool neg, v]) (bg : BoxIs wr g 40 [.bool z, .slice ad T.length cap]) (hT2 : Limbs w.heap.size wr.heap.size wr (.slice ad T.length cap) T) :
    Calls Tryd.prog 24 #[.agg #[.bool neg, v]] wr.drew fun e w' => ∃ ad4 cap4, e = .returned (.agg #[.bool z, .slice ad4 T.length cap4]) ∧ BoxIs w' w.heap.size 40 [.bool neg, v] ∧ BoxIs w' g 40 [.bool z, .slice ad T.length cap] ∧
      Calls Tryd.prog 23 #[.agg #[.bool z, .slice ad T.length cap], .agg #[.bool z, .slice ad4 T.length cap4]] w' fun e w'' => e = .returned (.bool true) ∧ Below W0.heap.size W0 w'' := by
  have hbb : Below w.heap.size w wr := hb0.trans (hb.mono hb0.size)
  have hTl : T.length ≤ xs.length := by rw [← hT]; exact toL_len xs h0.lt
  have q := norm02_any 0 w.heap.size neg v xs wr.drew ((h0.below hbb (Nat.le_refl _)).keep fun _ _ _ => rfl) hbb.size (by omega)
  rw [hz, hT] at q
  refine q.mono ?_
  rintro e w' ⟨r, rfl, hr, hb'⟩
  obtain ⟨ad4, cap4, rfl⟩ := hr.shape
  have hl0 : w.heap.size < wr.heap.size := b0.lt
  have hlg : g < wr.heap.size := bg.lt
  have hs : wr.heap.size ≤ w'.heap.size := hb'.size
  refine ⟨ad4, cap4, rfl, (hb'.block _ hl0).trans b0, (hb'.block _ hlg).trans bg, ?_⟩
  refine (sameI_true w.heap.size wr.heap.size _ _ z _ _ T w' (hT2.keep fun b _ h2 => hb'.block b h2) hs (by omega) hr (Nat.le_refl _)).mono ?_
  rintro e w'' ⟨rfl, hb2⟩
  exact ⟨rfl, hb.drew.trans ((hb'.trans (hb2.mono hb'.size)).mono hb.size)⟩

/-- what is told of a matrix, with its shapes -/
theorem matB_open {w w' : World} {e : Ending} {X : List (List Fr)} {i j c : Nat} (h : MatTold w w' e (X, i, j, c)) :
    ∃ ad cap, e = .returned (.tuple #[.slice ad X.length cap, .int .i64 (i : Nat), .int .i64 (j : Nat), .int .i64 (c : Nat)]) ∧ MatOwn w.heap.size w' (.slice ad X.length cap) X := by
  obtain ⟨r, rfl, hr⟩ := h
  obtain ⟨ad, cap, rfl⟩ := hr.shape
  exact ⟨_, _, rfl, hr⟩

theorem matB_at {B : Nat} {w : World} {v : Value} {m : List (List Fr)} (h : MatOwn B w v m) (i : Nat) (x : List Fr) (hx : m[i]? = some x) :
    ∃ g cap r, v = .slice (some ⟨g, 0, none⟩) m.length cap ∧ B ≤ g ∧ g < w.heap.size ∧ w.cell? ⟨g, i, none⟩ = some r ∧ Fracs B w.heap.size w r x := by
  obtain ⟨rs, f, hp⟩ := h
  have hm := hp.mono
  obtain ⟨h1, h2, h3, h4, h5, h6⟩ := hp
  have hi : i < m.length := (List.getElem?_eq_some_iff.1 hx).1
  obtain ⟨g, cap, rfl, hg1, hg2⟩ := own_nil_iff h1 (by omega)
  have hr := List.getElem?_eq_getElem (l := rs) (i := i) (by omega)
  have hf := h6 i x _ hx hr
  have hfi : f (i + 1) ≤ w.heap.size := Nat.le_trans (hm (i + 1) m.length (by omega)) h5
  have hf0 : B ≤ f i := Nat.le_trans h3 (hm 0 i (Nat.zero_le _))
  exact ⟨g, cap, _, rfl, hg1, hg2, (own_atV h1 i _ hr).1, (hf.fracs hfi).wide hf0 (Nat.le_refl _)⟩

/-- a matrix that is written is read -/
theorem mat_read (mL : List (List Fr)) (w : World) (hm0 : mL ≠ []) (hok : ∀ l, l ∈ mL → ∀ x, x ∈ l → OkF x) (hs : (strOf (matB mL)).size ≤ 100000000) (m : Int) (hm : w.cell? ⟨2, 0, none⟩ = some (.int .i64 m)) :
    Calls Tryd.prog 17 #[.string (strOf (matB mL))] w fun e w' => Below w.heap.size w w' ∧ ∃ ad cap, e = .returned (.tuple #[.slice ad mL.length cap, .int .i64 0, .int .i64 0, .int .i64 0]) ∧ MatOwn w.heap.size w' (.slice ad mL.length cap) (mL.map (·.map fracX)) := by
  have h := matrix_any (strOf (matB mL)) w hs m hm
  rw [mat_back mL hm0 hok] at h
  refine h.mono ?_
  rintro e w' ⟨hb, ht⟩
  obtain ⟨ad, cap, rfl, ho⟩ := matB_open ht
  rw [List.length_map] at ho ⊢
  exact ⟨hb, ad, cap, rfl, ho⟩

/-- a row that is written is read -/
theorem row_read (l : List Fr) (w : World) (hok : ∀ x, x ∈ l → OkF x) (hs : (strOf (rowB l)).size ≤ 100000000) :
    Calls Tryd.prog 14 #[.string (strOf (rowB l))] w fun e w' => Below w.heap.size w w' ∧ ∃ ad cap, e = .returned (.tuple #[.slice ad l.length cap, .int .i64 0, .int .i64 0]) ∧ Fracs w.heap.size w'.heap.size w' (.slice ad l.length cap) (l.map fracX) := by
  refine (rowTold (strOf (rowB l)) w (by omega) (l.map fracX) 0 0 (row_back l hok)).mono ?_
  rintro e w' ⟨hb, ad, cap, rfl, hr⟩
  rw [List.length_map] at hr ⊢
  exact ⟨hb, ad, cap, rfl, hr⟩

theorem row_print (l : List Fr) (lo h1 : Nat) (v : Value) (w : World) (hok : ∀ x, x ∈ l → OkF x) (h : Fracs lo h1 w v l) (hhi : h1 ≤ w.heap.size) (hbk : bulkF l ≤ 1073741824) :
    Calls Tryd.prog 30 #[v] w fun e w' => e = .returned (.tuple #[.string (strOf (rowB l)), .int .i64 0]) ∧ Below w.heap.size w w' := by
  refine (printRow_any lo h1 v l w h hhi hbk).mono ?_
  rintro e w' ⟨hb, ⟨⟨x, hx, h0⟩, _⟩ | ⟨_, rfl⟩⟩
  · exact absurd h0 (hok x hx).1
  · exact ⟨rfl, hb⟩

theorem mat_print (mL : List (List Fr)) (lo h1 : Nat) (v : Value) (w : World) (hok : ∀ l, l ∈ mL → ∀ x, x ∈ l → OkF x) (h : FracRows lo h1 w v mL) (hhi : h1 ≤ w.heap.size) (hbk : bulkM mL ≤ 1073741824) :
    Calls Tryd.prog 28 #[v] w fun e w' => e = .returned (.tuple #[.string (strOf (matB mL)), .int .i64 0]) ∧ Below w.heap.size w w' := by
  refine (printMatrix_any lo h1 v mL w h hhi hbk).mono ?_
  rintro e w' ⟨hb, ⟨hno, _⟩ | ⟨_, rfl⟩⟩
  · exact absurd (fun l hl x hx => (hok l hl x hx).1) hno
  · exact ⟨rfl, hb⟩

/-- Based, with either answer -/
theorem based_says (lo h1 : Nat) (neg : Bool) (v : Value) (xs : List Nat) (b : Int) (w : World) (h : Limbs lo h1 w v xs) (hhi : h1 ≤ w.heap.size) (hl : xs.length ≤ 1048576) :
    Calls Tryd.prog 25 #[.agg #[.bool neg, v], .int .i64 b] w fun e w' => ∃ s c, e = .returned (.tuple #[.string s, .int .i64 c]) ∧ (c = 1 ∨ (c = 0 ∧ ∃ k : Nat, b = (k : Nat) ∧ 2 ≤ k ∧ k ≤ 36 ∧ s = strOf (intS k neg (natOf xs)))) ∧ Below w.heap.size w w' := by
  by_cases hb : b < 2 ∨ 36 < b
  · refine (based_bad neg v b w hb).mono ?_
    rintro e w' ⟨rfl, hb⟩
    exact ⟨_, _, rfl, .inl rfl, hb⟩
  · obtain ⟨k, rfl⟩ : ∃ k : Nat, b = (k : Nat) := ⟨b.toNat, by omega⟩
    refine (based_any lo h1 neg v xs k w h hhi (by omega) (by omega) (by omega)).mono ?_
    rintro e w' ⟨rfl, hb'⟩
    exact ⟨_, _, rfl, .inr ⟨rfl, k, rfl, by omega, by omega, rfl⟩, hb'⟩

/-- an upright fraction's numbers are short -/
theorem fracX_len {lo hi : Nat} {w : World} {v : Value} {l : List Fr} (h : Fracs lo hi w v l) (hb : bulkF l ≤ 1073741824) : ∀ x, x ∈ l.map fracX → x.2.1.length ≤ 4398046511104 ∧ x.2.2.2.length ≤ 4398046511104 := by
  intro x hx
  obtain ⟨y, hy, rfl⟩ := List.mem_map.1 hx
  have h1 := bulkF_mem l y hy
  obtain ⟨h2, h3⟩ := h.small y hy
  have a := toL_len y.2.1 h2
  have b := toL_len y.2.2.2 h3
  exact ⟨show (toL (natOf y.2.1)).length ≤ _ by omega, show (toL (natOf y.2.2.2)).length ≤ _ by omega⟩
end Go.Proofs.YtjjidmgeladicaaDoor

/- The law similelaw02.NumeralBack: its walk. -/
namespace Go.Proofs.YtjjidmgeladicaaDoor
open Go.RowKit

theorem upSays_open {ar : Array Value} {w : World} {n9 n8 : Bool} {L1 L2 : List Nat} (h : Calls Tryd.prog 29 ar w fun e w' => UpSays w w' e (n9, L1, n8, L2)) :
    Calls Tryd.prog 29 ar w fun e w' => ∃ ad cap ad2 cap2, e = .returned (.agg #[.bool n9, .slice ad L1.length cap, .bool n8, .slice ad2 L2.length cap2]) ∧ Limbs w.heap.size w'.heap.size w' (.slice ad L1.length cap) L1 ∧ Limbs w.heap.size w'.heap.size w' (.slice ad2 L2.length cap2) L2 ∧ Below w.heap.size w w' := h

set_option maxRecDepth 100000 in
set_option maxHeartbeats 6400000 in
theorem back_walk (neg : Bool) (v vm : Value) (xs : List Nat) (mL : List (List Fr)) (base : Int) (w : World) (h : Limbs 0 w.heap.size w v xs) (hl : xs.length ≤ 1048576) (hM : FracRows 0 w.heap.size w vm mL) (hbk : bulkM mL ≤ 2097152) (m : Int) (hm : w.cell? ⟨2, 0, none⟩ = some (.int .i64 m)) :
    Calls Tryd.prog 6 #[.agg #[.bool neg, v], vm, .int .i64 base] w fun e w' => e = .returned (.bool true) ∧ Below w.heap.size w w' := by
  have QA := hid fun w => awake_any w
  have h20 : 2 < w.heap.size := World.block_lt_of_cell? w ⟨2, 0, none⟩ hm
  obtain ⟨hb0, b0, hsz⟩ := boxA w #[.bool neg, v] 40
  obtain ⟨z, hz⟩ : ∃ z, (neg && decide (natOf xs ≠ 0)) = z := ⟨_, rfl⟩
  obtain ⟨T, hT⟩ : ∃ T, toL (natOf xs) = T := ⟨_, rfl⟩
  obtain ⟨W0, hW0⟩ : ∃ W, w.alloc (.cells #[.bool neg, v] 40) = W := ⟨_, rfl⟩
  rw [hW0] at hb0 b0 hsz
  obtain ⟨hb1, bs1, hsz1⟩ := boxA W0 #[.bool neg, v] 40
  have hBC : Below w.heap.size w (W0.alloc (.cells #[.bool neg, v] 40)) := hb0.trans (hb1.mono hb0.size)
  have q1 : Calls Tryd.prog 20 #[.slice (some ⟨W0.heap.size, 0, none⟩) 1 1] (W0.alloc (.cells #[.bool neg, v] 40)) fun e w' => ManySays (W0.alloc (.cells #[.bool neg, v] 40)) w' e [(neg, v, xs)] := many_any W0.heap.size 1 [(neg, v, xs)] (W0.alloc (.cells #[.bool neg, v] 40)) (intsIn1 bs1 ⟨0, w.heap.size, h.below hBC (Nat.le_refl _), hBC.size⟩ (by omega)) (by rw [hsz1]; exact Nat.lt_succ_self _) (by simp)
  have b0' := b0.later hb1
  have q2 := fun wr (hb : Below W0.heap.size W0 wr) => printInt_any 0 w.heap.size neg v xs wr (h.below (hb0.trans (hb.mono hb0.size)) (Nat.le_refl _)) (Nat.le_trans hb0.size hb.size) (by omega)
  have q3 := fun wr (hb : Below W0.heap.size W0 wr) => based_says 0 w.heap.size neg v xs base wr (h.below (hb0.trans (hb.mono hb0.size)) (Nat.le_refl _)) (Nat.le_trans hb0.size hb.size) (by omega)
  have qe := fun wr g ad cap => back_eq w W0 wr neg z v xs T g ad cap hz hT h hl hb0
  obtain ⟨N, hN⟩ : ∃ N, natOf xs = N := ⟨_, rfl⟩
  rw [hN] at q2 q3 hz hT
  have Q1 := hid q1
  have Q2 := hid q2
  have Q3 := hid q3
  have QE := hid qe
  have HB0 := hid hb0
  have HB1 := hid hb1
  have BX0 := hid b0
  have HZ := hid hz
  have HT := hid hT
  have HM := hid hm
  have HSZ := hid hsz
  have HMM := hid hM
  have HNN := hid hN
  obtain ⟨adv, capv, rfl⟩ := h.shape
  obtain ⟨adm, capm, rfl⟩ := RowOf.shape hM
  obtain ⟨c0, c1, f0, f1⟩ := b0'.two
  have hmlen := bulkM_len mL
  clear hsz q1 q2 q3 qe hb0 hb1 b0 b0' hz hT hm hM h hN hBC bs1 hsz1
  obtain ⟨k0, k1, _, _⟩ := BX0.out.two
  go_enter Tryd.func6, Tryd.ntmps6
  go_wp2_with fail
  clear hW0
  refine Q1.out.mono ?_
  clear Q1
  rintro e w1 ⟨b, rfl, hsm, hbm⟩
  have hb1 := HB1.out.trans (hbm.mono HB1.out.size)
  have HB2 := hid hb1
  cases b
  case true =>
    go_wp2_with fail
    refine (QA.out _).mono ?_
    rintro e w2 ⟨rfl, hb2⟩
    have hfin := HB0.out.trans ((HB2.out.trans (hb2.mono HB2.out.size)).mono HB0.out.size)
    have HFIN := hid hfin
    clear hfin
    go_wp2
    go_ret
    exact ⟨rfl, HFIN.out⟩
  case false =>
    have hsm2 : Small4 N := by
      have := hsm rfl (neg, .slice adv xs.length capv, xs) (by simp)
      rw [← HNN.out]; exact this
    have bx1 := BX0.out.later hb1
    obtain ⟨d0, d1, _, _⟩ := bx1.two
    have hx := parse_int 10 N neg (by decide) (by decide) (by have := small_len 10 N (by decide) hsm2; omega)
    rw [HZ.out] at hx
    have hsz10 := int_size 10 N neg (by decide) hsm2
    have q2 := Q2.out w1 hb1
    obtain ⟨ST, hST⟩ : ∃ ST, strOf (intS 10 neg N) = ST := ⟨_, rfl⟩
    rw [hST] at hx hsz10 q2
    have Q2b := hid q2
    have QI := hid fun w => int_back ST w hsz10 z N hx
    rw [HT.out] at QI
    have HSM := hid hsm2
    clear hsm hbm hsm2 bx1 hx hsz10 q2 hST Q2 c0 c1 f0 f1 k0 k1 hb1
    go_wp2_with fail
    refine Q2b.out.mono ?_
    rintro e w2 ⟨rfl, hb2⟩
    have hb2' := HB2.out.trans (hb2.mono HB2.out.size)
    have HB3 := hid hb2'
    clear hb2 hb2' Q2b d0 d1 HB2
    go_wp2_with fail
    refine (QI.out _).mono ?_
    rintro e w3 ⟨hb3, ad, cap, rfl, hy⟩
    have hb3' := HB3.out.trans (hb3.mono HB3.out.size)
    have hyw := hy.wide (lo' := w.heap.size) (hi' := w3.heap.size) (Nat.le_trans HB0.out.size HB3.out.size) (Nat.le_refl _)
    obtain ⟨hal, bg, hsg⟩ := boxA w3 #[.bool z, .slice ad T.length cap] 40
    have hb4 := hb3'.trans (hal.mono hb3'.size)
    have hy4 := (hyw.below hal (Nat.le_refl _)).wide (lo' := w.heap.size) (hi' := (w3.alloc (.cells #[.bool z, .slice ad T.length cap] 40)).heap.size) (Nat.le_refl _) hal.size
    have bx4 := BX0.out.later hb4
    obtain ⟨d0, d1, _, _⟩ := bx4.two
    obtain ⟨e0, e1, _, _⟩ := bg.two
    have QN := hid (QE.out (w3.alloc (.cells #[.bool z, .slice ad T.length cap] 40)) w3.heap.size ad cap hb4 bx4 bg hy4)
    clear hb3 hb3' hyw hy hal hb4 hy4 bx4 bg hsg QI HB3
    go_upto_region 4 with (fail)
    go_cut [51] from 42 to 50 (fun v wr => v = .bool false ∧ Below W0.heap.size W0 wr)
    case first =>
      go_region_with (first | (go_at_call 13; refine (num_any _ _).mono ?_; rintro e w4 ⟨rfl, rfl⟩) | (go_at_call 24; refine QN.out.mono ?_; rintro e w4 ⟨ad4, cap4, rfl, bx4, bg4, qs⟩; have QS := hid qs; clear qs; obtain ⟨g0, g1, _, _⟩ := bx4.two; obtain ⟨j0, j1, _, _⟩ := bg4.two; clear bx4 bg4) | (go_at_call 23; refine QS.out.mono ?_; rintro e w5 ⟨rfl, hb5⟩) | fail)
      all_goals
        have HB5 := hid hb5
        clear hb5
        go_wp2
        go_meet
        case rel => exact ⟨rfl, HB5.out⟩
    case rest =>
      obtain ⟨rfl, hb4⟩ := hcut
      clear QN e0 e1 d0 d1
      have bx4 := BX0.out.later hb4
      obtain ⟨d0, d1, _, _⟩ := bx4.two
      have Q3b := hid (Q3.out wc hb4)
      have HB4 := hid hb4
      clear hb4 bx4 Q3
      go_wp2_with fail
      refine Q3b.out.mono ?_
      rintro e w4 ⟨sb, cb, rfl, hcb, hb4⟩
      have hb5 := HB4.out.trans (hb4.mono HB4.out.size)
      have HCB := hid hcb
      have HB5 := hid hb5
      clear hcb hb4 Q3b d0 d1 hb5 HB4
      go_wp2_with fail
      refine (num_any _ _).mono ?_
      rintro e w4' ⟨rfl, rfl⟩
      go_upto_if 60 with (fail)
      go_cut [10, 11] from 61 to 76 (fun _ _ wr => Below W0.heap.size W0 wr)
      case first =>
        rcases HCB.out with rfl | ⟨rfl, kb, rfl, hk2, hk36, hsb⟩
        · go_wp2
          go_meet
          case rel => exact HB5.out
        · have hx := parse_int kb N neg hk2 hk36 (by have := small_len kb N hk2 HSM.out; omega)
          rw [HZ.out, ← hsb] at hx
          have hsz10 := int_size kb N neg hk2 HSM.out
          rw [← hsb] at hsz10
          have QI := hid fun w => base_back sb kb w hsz10 hk2 hk36 z N hx
          rw [HT.out] at QI
          clear hx hsz10 hsb HCB
          go_wp2_with fail
          refine (QI.out _).mono ?_
          rintro e w3 ⟨hb3, ad5, cap5, rfl, hy⟩
          have hb3' := HB5.out.trans (hb3.mono HB5.out.size)
          have hyw := hy.wide (lo' := w.heap.size) (hi' := w3.heap.size) (Nat.le_trans HB0.out.size HB5.out.size) (Nat.le_refl _)
          obtain ⟨hal, bg, hsg⟩ := boxA w3 #[.bool z, .slice ad5 T.length cap5] 40
          have hb4 := hb3'.trans (hal.mono hb3'.size)
          have hy4 := (hyw.below hal (Nat.le_refl _)).wide (lo' := w.heap.size) (hi' := (w3.alloc (.cells #[.bool z, .slice ad5 T.length cap5] 40)).heap.size) (Nat.le_refl _) hal.size
          have bx4 := BX0.out.later hb4
          obtain ⟨d0, d1, _, _⟩ := bx4.two
          obtain ⟨e0, e1, _, _⟩ := bg.two
          have QN := hid (QE.out (w3.alloc (.cells #[.bool z, .slice ad5 T.length cap5] 40)) w3.heap.size ad5 cap5 hb4 bx4 bg hy4)
          clear hb3 hb3' hyw hy hal hb4 hy4 bx4 bg hsg QI HB5
          go_upto_region 9 with (fail)
          go_region_with (first | (go_at_call 13; refine (num_any _ _).mono ?_; rintro e w4 ⟨rfl, rfl⟩) | (go_at_call 24; refine QN.out.mono ?_; rintro e w4 ⟨ad4, cap4, rfl, bx4, bg4, qs⟩; have QS := hid qs; clear qs; obtain ⟨g0, g1, _, _⟩ := bx4.two; obtain ⟨j0, j1, _, _⟩ := bg4.two; clear bx4 bg4) | (go_at_call 23; refine QS.out.mono ?_; rintro e w5 ⟨rfl, hb5⟩) | fail)
          all_goals
            have HB6 := hid hb5
            clear hb5
            go_wp2
            go_meet
            case rel => exact HB6.out
      case rest =>
        have HBA := hid hcut
        clear hcut HCB HB5 QE HZ HT BX0 HB1 HNN HSM
        go_wp2
        go_loopw [79] (fun iv wr => ∃ k : Nat, iv = .int .i64 k ∧ k ≤ mL.length ∧ Below W0.heap.size W0 wr ∧ ∀ i l, i < k → mL[i]? = some l → ∀ x, x ∈ l → OkF x) (fun iv _ => mL.length - (intOf iv).toNat)
        case atStart => exact ⟨0, rfl, Nat.zero_le _, HBA.out, fun i l hi => by omega⟩
        case round =>
          obtain ⟨k, rfl, hk, hbel, hall⟩ := hrel
          have HALL := hid hall
          have HBEL := hid hbel
          clear hall hbel
          by_cases hkl : k < mL.length
          · obtain ⟨l, hx⟩ : ∃ l, mL[k]? = some l := ⟨_, List.getElem?_eq_getElem hkl⟩
            obtain ⟨gb, off, cp, r, hsh, _, _, hbw, hfr, hcell⟩ := HMM.out.at k l hx
            simp only [Value.slice.injEq, true_and] at hsh
            obtain ⟨rfl, rfl⟩ := hsh
            have d0 : wr.cell? ⟨gb, off + k, none⟩ = some r := ((HB0.out.trans (HBEL.out.mono HB0.out.size)).cell (p := ⟨gb, off + k, none⟩) hbw).trans hcell
            have f1 : (k : Int) < (mL.length : Int) := by omega
            have hbl := bulkM_mem mL l (List.mem_of_getElem? hx)
            have hll := bulkF_len l
            obtain ⟨adr, cr, rfl⟩ := RowOf.shape hfr
            have HFR := hid hfr
            have HX := hid hx
            clear hfr hx hcell
            go_wp2
            go_loopw [85] (fun iv wr2 => ∃ j : Nat, iv = .int .i64 j ∧ j ≤ l.length ∧ Below W0.heap.size W0 wr2 ∧ ∀ i x, i < j → l[i]? = some x → OkF x) (fun iv _ => l.length - (intOf iv).toNat)
            case atStart => exact ⟨0, rfl, Nat.zero_le _, HBEL.out, fun i x hi => by omega⟩
            case round =>
              obtain ⟨j, rfl, hj, hbel2, hall2⟩ := hrel
              have HALL2 := hid hall2
              have HBEL2 := hid hbel2
              clear hall2 hbel2
              by_cases hjl : j < l.length
              · obtain ⟨⟨x1, xq, x3, xp⟩, hx2⟩ : ∃ x, l[j]? = some x := ⟨_, List.getElem?_eq_getElem hjl⟩
                obtain ⟨b2, off2, cp2, q, p, hsh2, _, _, hbw2, hq, hp, e0, e1, e2, e3⟩ := HFR.out.at j _ hx2
                simp only [Value.slice.injEq, true_and] at hsh2
                obtain ⟨rfl, rfl⟩ := hsh2
                dsimp only at hq hp e0 e1 e2 e3
                have hbx := bulkF_mem l _ (List.mem_of_getElem? hx2)
                dsimp only at hbx
                have hW2 : Below w.heap.size w wr := HB0.out.trans (HBEL2.out.mono HB0.out.size)
                have g0 := (hW2.cell (p := ⟨b2, off2 + j * 4, none⟩) hbw2).trans e0
                have g1 := (hW2.cell (p := ⟨b2, off2 + j * 4 + 1, none⟩) hbw2).trans e1
                have g2 := (hW2.cell (p := ⟨b2, off2 + j * 4 + 2, none⟩) hbw2).trans e2
                have g3 := (hW2.cell (p := ⟨b2, off2 + j * 4 + 3, none⟩) hbw2).trans e3
                have HQ := hid hq
                have HP := hid hp
                obtain ⟨adq, cq, rfl⟩ := hq.shape
                obtain ⟨adp, cpp, rfl⟩ := hp.shape
                obtain ⟨hal, b15, hs15⟩ := boxA wr #[.bool x1, .slice adq xq.length cq, .bool x3, .slice adp xp.length cpp] 42
                have hB5 := HBEL2.out.trans (hal.mono HBEL2.out.size)
                obtain ⟨W5, hW5⟩ : ∃ W, wr.alloc (.cells #[.bool x1, .slice adq xq.length cq, .bool x3, .slice adp xp.length cpp] 42) = W := ⟨_, rfl⟩
                rw [hW5] at hal b15 hs15 hB5
                obtain ⟨hal2, b16, hs16⟩ := boxA W5 #[.bool x1, .slice adq xq.length cq, .bool x3, .slice adp xp.length cpp] 40
                have hB6 := hB5.trans (hal2.mono hB5.size)
                have hW6 := HB0.out.trans (hB6.mono HB0.out.size)
                have q1 : Calls Tryd.prog 20 #[.slice (some ⟨W5.heap.size, 0, none⟩) 2 2] (W5.alloc (.cells #[.bool x1, .slice adq xq.length cq, .bool x3, .slice adp xp.length cpp] 40)) fun e w' => ManySays (W5.alloc (.cells #[.bool x1, .slice adq xq.length cq, .bool x3, .slice adp xp.length cpp] 40)) w' e [(x1, .slice adq xq.length cq, xq), (x3, .slice adp xp.length cpp, xp)] :=
                  many_any W5.heap.size 2 [(x1, .slice adq xq.length cq, xq), (x3, .slice adp xp.length cpp, xp)] _ (intsIn2 b16 ⟨0, w.heap.size, hq.below hW6 (Nat.le_refl _), hW6.size⟩ (by omega) ⟨0, w.heap.size, hp.below hW6 (Nat.le_refl _), hW6.size⟩ (by omega)) (by rw [hs16]; exact Nat.lt_succ_self _) (by simp)
                have q2 := fun wr (hb : Below w.heap.size w wr) => may_any 0 w.heap.size x1 x3 (.slice adq xq.length cq) (.slice adp xp.length cpp) xp wr (hp.below hb (Nat.le_refl _)) hb.size (by omega)
                obtain ⟨zz, hzz⟩ : ∃ zz, decide (natOf xp = 0) = zz := ⟨_, rfl⟩
                rw [hzz] at q2
                have Q1 := hid q1
                have Q2 := hid q2
                have HZZ := hid hzz
                have HX2 := hid hx2
                have BX15 := hid (b15.later hal2)
                have HB6 := hid hB6
                have f2 : (j : Int) < (l.length : Int) := by omega
                obtain ⟨⟨a0, a1, a2, a3⟩, _⟩ := b15.four
                clear q1 q2 hzz hx2 hq hp e0 e1 e2 e3 hW2 hal b15 hs15 hB5 hal2 b16 hs16 hB6 hW6
                go_wp2_with fail
                clear hW5
                refine Q1.out.mono ?_
                clear Q1
                rintro e w7 ⟨b, rfl, hsm, hb7⟩
                have hB7 := HB6.out.trans (hb7.mono HB6.out.size)
                have bx7 := BX15.out.later hb7
                have HB7 := hid hB7
                cases b
                case true =>
                  clear hB7 bx7 hsm hb7
                  go_wp2_with fail
                  refine (QA.out _).mono ?_
                  rintro e w9 ⟨rfl, hb9⟩
                  have HFIN := hid (HB0.out.trans ((HB7.out.trans (hb9.mono HB7.out.size)).mono HB0.out.size))
                  clear hb9
                  go_wp2
                  go_ret
                  exact ⟨rfl, HFIN.out⟩
                case false =>
                  have HS1 := hid (hsm rfl (x1, .slice adq xq.length cq, xq) (by simp))
                  have HS2 := hid (hsm rfl (x3, .slice adp xp.length cpp, xp) (by simp))
                  have Q2a := hid (Q2.out w7 (HB0.out.trans (hB7.mono HB0.out.size)))
                  obtain ⟨⟨m0, m1, m2, m3⟩, _⟩ := bx7.four
                  clear hB7 bx7 hsm hb7 Q2 a0 a1 a2 a3
                  go_wp2_with fail
                  refine Q2a.out.mono ?_
                  clear Q2a
                  rintro e w8 ⟨rfl, hb8⟩
                  have HB8 := hid (HB7.out.trans (hb8.mono HB7.out.size))
                  clear hb8
                  cases zz
                  case true =>
                    go_wp2_with fail
                    refine (QA.out _).mono ?_
                    rintro e w9 ⟨rfl, hb9⟩
                    have HFIN := hid (HB0.out.trans ((HB8.out.trans (hb9.mono HB8.out.size)).mono HB0.out.size))
                    clear hb9
                    go_wp2
                    go_ret
                    exact ⟨rfl, HFIN.out⟩
                  case false =>
                    go_wp2
                    go_roundw
                    case rel =>
                      refine ⟨j + 1, by go_num, by omega, HB8.out, fun i x hi hix => ?_⟩
                      rcases Nat.lt_or_ge i j with h | h
                      · exact HALL2.out i x h hix
                      · obtain rfl : i = j := by omega
                        have hx2 := HX2.out
                        rw [hx2] at hix
                        simp only [Option.some.injEq] at hix
                        subst hix
                        exact okF_of HS1.out HS2.out (of_decide_eq_false HZZ.out)
                    case measure => simp [intOf]; omega
              · obtain rfl : j = l.length := by omega
                go_wp2
                go_roundw
                case rel =>
                  refine ⟨k + 1, by go_num, by omega, HBEL2.out, fun i l' hi hil x hx => ?_⟩
                  rcases Nat.lt_or_ge i k with h | h
                  · exact HALL.out i l' h hil x hx
                  · obtain rfl : i = k := by omega
                    have hx2 := HX.out
                    rw [hx2] at hil
                    simp only [Option.some.injEq] at hil
                    subst hil
                    obtain ⟨n, hn, rfl⟩ := List.mem_iff_getElem.1 hx
                    exact HALL2.out n _ hn (List.getElem?_eq_getElem hn)
                case measure => simp [intOf]; omega
          · obtain rfl : k = mL.length := by omega
            have hok : ∀ l, l ∈ mL → ∀ x, x ∈ l → OkF x := fun l hl => by
              obtain ⟨i, hi, rfl⟩ := List.mem_iff_getElem.1 hl
              exact HALL.out i _ hi (List.getElem?_eq_getElem hi)
            have HOK := hid hok
            clear hok HALL
            by_cases hm0 : mL.length = 0
            · have f3 : (((mL.length : Nat) : Int) == 0) = true := beq_iff_eq.2 (by omega)
              clear hm0
              go_wp2_with fail
              refine (QA.out _).mono ?_
              rintro e w9 ⟨rfl, hb9⟩
              have HFIN := hid (HB0.out.trans ((HBEL.out.trans (hb9.mono HBEL.out.size)).mono HB0.out.size))
              clear hb9
              go_wp2
              go_ret
              exact ⟨rfl, HFIN.out⟩
            · have f3 : (((mL.length : Nat) : Int) == 0) = false := beq_eq_false_iff_ne.2 (by omega)
              have hne : mL ≠ [] := fun e => hm0 (by rw [e]; rfl)
              have hWr : Below w.heap.size w wr := HB0.out.trans (HBEL.out.mono HB0.out.size)
              have qp := mat_print mL 0 w.heap.size _ wr HOK.out (HMM.out.below hWr (Nat.le_refl _)) hWr.size (by omega)
              have hsz9 : (strOf (matB mL)).size ≤ 100000000 := by
                have h1 := matB_len mL HMM.out.small
                have e : (strOf (matB mL)).size = (matB mL).length := by simp [strOf, ByteArray.size]
                omega
              have qr := fun w m hm => mat_read mL w hne HOK.out hsz9 m hm
              obtain ⟨ST, hST⟩ : ∃ ST, strOf (matB mL) = ST := ⟨_, rfl⟩
              rw [hST] at qp qr
              have QP := hid qp
              have QR := hid qr
              have HWR := hid hWr
              clear qp qr hsz9 hne hm0 hWr hST
              go_wp2_with fail
              refine QP.out.mono ?_
              clear QP
              rintro e w3 ⟨rfl, hb3⟩
              have hb3' := HWR.out.trans (hb3.mono HWR.out.size)
              have QRa := hid (QR.out w3 m ((hb3'.cell (p := ⟨2, 0, none⟩) h20).trans HM.out))
              have HB3 := hid hb3'
              clear hb3 hb3' QR
              go_wp2_with fail
              refine QRa.out.mono ?_
              clear QRa
              rintro e w4 ⟨hb4, ad4, cap4, rfl, ho⟩
              have HB4 := hid (HB3.out.trans (hb4.mono HB3.out.size))
              have O4 := hid ho
              clear hb4 ho HBEL HBA
              go_wp2_with fail
              refine (num_any _ _).mono ?_
              rintro e w4' ⟨rfl, rfl⟩
              go_wp2_with fail
              refine (num_any _ _).mono ?_
              rintro e w4' ⟨rfl, rfl⟩
              go_wp2
              go_loopw [144] (fun iv wr => ∃ k : Nat, iv = .int .i64 k ∧ k ≤ mL.length ∧ Below w4.heap.size w4 wr) (fun iv _ => mL.length - (intOf iv).toNat)
              case atStart => exact ⟨0, rfl, Nat.zero_le _, Below.refl _ _⟩
              case round =>
                obtain ⟨wo, hwo⟩ : ∃ wo, wo = wr := ⟨_, rfl⟩
                subst hwo
                obtain ⟨k, rfl, hk2, hbel⟩ := hrel
                have HBEL := hid hbel
                have HWO := hid (HB4.out.trans (hbel.mono HB4.out.size))
                clear hbel
                by_cases hkl : k < mL.length
                · obtain ⟨l, hx⟩ : ∃ l, mL[k]? = some l := ⟨_, List.getElem?_eq_getElem hkl⟩
                  obtain ⟨gb, off, cp, r, hsh, _, _, hbw, hfr, hcell⟩ := HMM.out.at k l hx
                  simp only [Value.slice.injEq, true_and] at hsh
                  obtain ⟨rfl, rfl⟩ := hsh
                  obtain ⟨g18, c18, r18, hsh18, _, hg18, hcell18, hfr18⟩ := matB_at O4.out k (l.map fracX) (by rw [List.getElem?_map, hx]; rfl)
                  simp only [Value.slice.injEq, List.length_map, true_and] at hsh18
                  obtain ⟨rfl, rfl⟩ := hsh18
                  have d0 : wo.cell? ⟨gb, off + k, none⟩ = some r := (HWO.out.cell (p := ⟨gb, off + k, none⟩) hbw).trans hcell
                  have f1 : (k : Int) < (mL.length : Int) := by omega
                  have hbl := bulkM_mem mL l (List.mem_of_getElem? hx)
                  have hll := bulkF_len l
                  have hll := bulkF_len l
                  have OKL := hid (HOK.out l (List.mem_of_getElem? hx))
                  have C18 := hid hcell18
                  have F18 := hid hfr18
                  obtain ⟨adr, cr, rfl⟩ := RowOf.shape hfr
                  have HFR := hid hfr
                  clear hfr hx hcell hcell18 hfr18
                  go_wp2
                  go_loopw [24, 151] (fun ov iv wr => ∃ j : Nat, iv = .int .i64 j ∧ j ≤ l.length ∧ OutRow wo.heap.size wr ov ((l.take j).map fracX) ∧ Below wo.heap.size wo wr) (fun _ iv _ => l.length - (intOf iv).toNat)
                  case atStart => exact ⟨0, rfl, Nat.zero_le _, OutRow.nil, Below.refl _ _⟩
                  case round =>
                    obtain ⟨j, rfl, hj, hout, hbel2⟩ := hrel
                    have HBEL2 := hid hbel2
                    have hs1 := hbel2.size
                    clear hbel2
                    by_cases hjl : j < l.length
                    · obtain ⟨⟨x1, xq, x3, xp⟩, hx2⟩ : ∃ x, l[j]? = some x := ⟨_, List.getElem?_eq_getElem hjl⟩
                      obtain ⟨b2, off2, cp2, q, p, hsh2, _, _, hbw2, hq, hp, e0, e1, e2, e3⟩ := HFR.out.at j _ hx2
                      simp only [Value.slice.injEq, true_and] at hsh2
                      obtain ⟨rfl, rfl⟩ := hsh2
                      dsimp only at hq hp e0 e1 e2 e3
                      have hbx := bulkF_mem l _ (List.mem_of_getElem? hx2)
                      dsimp only at hbx
                      have hW2 : Below w.heap.size w wr := HWO.out.trans (HBEL2.out.mono HWO.out.size)
                      have g0 := (hW2.cell (p := ⟨b2, off2 + j * 4, none⟩) hbw2).trans e0
                      have g1 := (hW2.cell (p := ⟨b2, off2 + j * 4 + 1, none⟩) hbw2).trans e1
                      have g2 := (hW2.cell (p := ⟨b2, off2 + j * 4 + 2, none⟩) hbw2).trans e2
                      have g3 := (hW2.cell (p := ⟨b2, off2 + j * 4 + 3, none⟩) hbw2).trans e3
                      obtain ⟨adq, cq, rfl⟩ := hq.shape
                      obtain ⟨adp, cpp, rfl⟩ := hp.shape
                      obtain ⟨hal, b15, hs15⟩ := boxA wr #[.bool x1, .slice adq xq.length cq, .bool x3, .slice adp xp.length cpp] 42
                      have hB5 := HBEL2.out.trans (hal.mono hs1)
                      have hW5 := hW2.trans (hal.mono hW2.size)
                      have hou5 := hout.later hal
                      obtain ⟨⟨a0, a1, a2, a3⟩, _⟩ := b15.four
                      have hF := OKL.out _ (List.mem_of_getElem? hx2)
                      have qu := upright_any 0 w.heap.size 0 w.heap.size x1 x3 (.slice adq xq.length cq) (.slice adp xp.length cpp) xq xp (wr.alloc (.cells #[.bool x1, .slice adq xq.length cq, .bool x3, .slice adp xp.length cpp] 42)) (hq.below hW5 (Nat.le_refl _)) hW5.size (by omega) (hp.below hW5 (Nat.le_refl _)) hW5.size (by omega) hF.1
                      obtain ⟨⟨n9, L1, n8, L2⟩, hFX⟩ : ∃ F, fracX (x1, xq, x3, xp) = F := ⟨_, rfl⟩
                      rw [hFX] at qu
                      have QU := hid (upSays_open qu)
                      obtain ⟨out, hO⟩ : ∃ out, (l.take j).map fracX = out := ⟨_, rfl⟩
                      have hol : out.length ≤ j := by rw [← hO, List.length_map]; exact List.length_take_le j l
                      have hnext : (l.take (j + 1)).map fracX = out ++ [(n9, L1, n8, L2)] := by
                        rw [List.take_add_one, hx2, List.map_append, hO]
                        simp [hFX]
                      rw [hO] at hout hou5
                      obtain ⟨ado, co, rfl⟩ := hout.shape
                      have HNEXT := hid hnext
                      have HOU5 := hid hou5
                      have HB5 := hid hB5
                      have f2 : (j : Int) < (l.length : Int) := by omega
                      clear qu hFX hO hnext hx2 hq hp e0 e1 e2 e3 hW2 hal b15 hs15 hB5 hW5 hou5 hout hF d0
                      go_wp2_with fail
                      refine QU.out.mono ?_
                      clear QU
                      rintro e w3 ⟨ad5, cap5, ae5, cbp5, rfl, hq, hp, hb3⟩
                      have hC := HB5.out.trans (hb3.mono HB5.out.size)
                      have hout2 := HOU5.out.later hb3
                      have hs5 := HB5.out.size
                      have hq2 := hq.wide (lo' := wo.heap.size) (hi' := w3.heap.size) hs5 (Nat.le_refl _)
                      have hp2 := hp.wide (lo' := wo.heap.size) (hi' := w3.heap.size) hs5 (Nat.le_refl _)
                      obtain ⟨cs, hown, hcl, hc4, hR⟩ := hout2
                      have hB0 : 0 < wo.heap.size := by have := HWO.out.size; omega
                      have HOWN := hid hown
                      have HQ := hid hq2
                      have HP := hid hp2
                      have HR := hid hR
                      have HD := hid hC
                      clear hq hp hb3 hC hown hq2 hp2 hR hs5 a0 a1 a2 a3 g0 g1 g2 g3
                      go_wp2_with (at_builtin; go_loud (refine wpl_append1 elemRat rfl _ _ rfl wo.heap.size out.length 1 1 _ cs.flatten #[.bool n9, .slice ad5 L1.length cap5, .bool n8, .slice ae5 L2.length cbp5] HOWN.out rfl rfl rfl (by simp [Value.oneCell']) (by omega) (by decide) (by unfold maxLen; omega) HD.out HD.out.size ?_))
                      intro g6 c6 w6 ho6 hb6 hg6
                      have hsn := OutRow.snoc (x := (n9, L1, n8, L2)) hB0 HOWN.out hcl hc4 HR.out HQ.out HP.out ho6 hg6
                      rw [← HNEXT.out] at hsn
                      have HSN := hid hsn
                      have HB6 := hid hb6
                      clear hsn ho6 hg6 hb6
                      go_wp2
                      go_roundw
                      case rel => exact ⟨j + 1, by go_num, by omega, HSN.out, HB6.out⟩
                      case measure => simp [intOf]; omega
                    · obtain rfl : j = l.length := by omega
                      rw [List.take_length] at hout
                      have hWx : Below w.heap.size w wr := HWO.out.trans (HBEL2.out.mono HWO.out.size)
                      have hW4 : Below w4.heap.size w4 wr := HBEL.out.trans (HBEL2.out.mono HBEL.out.size)
                      have qp := row_print l 0 w.heap.size _ wr OKL.out (HFR.out.below hWx (Nat.le_refl _)) hWx.size (by omega)
                      have hsz9 : (strOf (rowB l)).size ≤ 100000000 := by
                        have h1 := rowB_len l HFR.out.small
                        have e : (strOf (rowB l)).size = (rowB l).length := by simp [strOf, ByteArray.size]
                        omega
                      have qr := fun w => row_read l w OKL.out hsz9
                      have hlen := fracX_len HFR.out (by omega)
                      obtain ⟨ST, hST⟩ : ∃ ST, strOf (rowB l) = ST := ⟨_, rfl⟩
                      rw [hST] at qp qr
                      obtain ⟨LX, hLX⟩ : ∃ LX, l.map fracX = LX := ⟨_, rfl⟩
                      have hLl : LX.length ≤ 1000000000 := by rw [← hLX, List.length_map]; omega
                      have F18b := F18.out
                      rw [hLX] at qr hlen hout F18b
                      have QP := hid qp
                      have QR := hid qr
                      have HLEN := hid hlen
                      have HOUT := hid hout
                      have HF18 := hid F18b
                      have HW4 := hid hW4
                      obtain ⟨ado, co, rfl⟩ := hout.shape
                      clear qp qr hsz9 hlen hST hLX hout F18b F18 hWx hW4 d0
                      go_wp2_with fail
                      refine QP.out.mono ?_
                      clear QP
                      rintro e w5 ⟨rfl, hb5⟩
                      have hW5 := HW4.out.trans (hb5.mono HW4.out.size)
                      have HB5 := hid hb5
                      have HW5 := hid hW5
                      clear hb5 hW5
                      go_wp2_with fail
                      refine (QR.out _).mono ?_
                      clear QR
                      rintro e w6 ⟨hb6, ad6, cap6, rfl, hr6⟩
                      have hW6 := HW5.out.trans (hb6.mono HW5.out.size)
                      have d18 : w6.cell? ⟨g18, k, none⟩ = some r18 := (hW6.cell (p := ⟨g18, k, none⟩) hg18).trans C18.out
                      have hout6 := (HOUT.out.later HB5.out).later hb6
                      have hfx := HF18.out.below hW6 (Nat.le_refl _)
                      have QX := hid (rows_true _ _ _ _ r18 _ LX w6 hfx hW6.size hout6.fracs (Nat.le_refl _) hLl HLEN.out)
                      have HW6 := hid hW6
                      have HO6 := hid hout6
                      have HR6 := hid hr6
                      clear hb6 hW6 hout6 hfx hr6
                      go_wp2_with fail
                      refine QX.out.mono ?_
                      clear QX
                      rintro e w7 ⟨rfl, hb7⟩
                      have QY := hid (rows_true _ _ _ _ _ _ LX w7 (HR6.out.below hb7 (Nat.le_refl _)) hb7.size (HO6.out.later hb7).fracs (Nat.le_refl _) hLl HLEN.out)
                      have HW7 := hid (HW6.out.trans (hb7.mono HW6.out.size))
                      clear hb7
                      go_wp2_with fail
                      refine (num_any _ _).mono ?_
                      rintro e w4' ⟨rfl, rfl⟩
                      go_wp2_with fail
                      refine (num_any _ _).mono ?_
                      rintro e w4' ⟨rfl, rfl⟩
                      go_wp2_with fail
                      refine QY.out.mono ?_
                      clear QY
                      rintro e w8 ⟨rfl, hb8⟩
                      have HW8 := hid (HW7.out.trans (hb8.mono HW7.out.size))
                      clear hb8 d18
                      go_wp2
                      go_roundw
                      case rel => exact ⟨k + 1, by go_num, by omega, HW8.out⟩
                      case measure => simp [intOf]; omega
                · obtain rfl : k = mL.length := by omega
                  go_wp2_with fail
                  refine (QA.out _).mono ?_
                  rintro e w9 ⟨rfl, hb9⟩
                  have HFIN := hid (HWO.out.trans (hb9.mono HWO.out.size))
                  clear hb9
                  go_wp2
                  go_ret
                  exact ⟨rfl, HFIN.out⟩
end Go.Proofs.YtjjidmgeladicaaDoor
