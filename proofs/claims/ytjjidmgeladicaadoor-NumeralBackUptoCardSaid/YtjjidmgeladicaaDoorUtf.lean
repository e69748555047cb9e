/- Runes and bytes, plain: a text's runes as a function of its bytes; parts of a text; what is encoded is decoded. No condition. -/
import Derived.Test.YtjjidmgeladicaaDoorRowN
import Derived.Lib.TrimUEq
import Derived.Lib.MapLaws
namespace Go.Proofs.YtjjidmgeladicaaDoor

set_option maxRecDepth 100000 in
set_option maxHeartbeats 4000000 in
/-- an encoding that ends within the first k bytes decodes the same where only these are there -/
theorem decodeN_take (n k b0 b1 b2 b3 c1 c2 c3 : Nat) (hk : 1 ≤ k) (hkn : k ≤ n) (hw : (Lib.decodeN n b0 b1 b2 b3).2 ≤ k)
    (e1 : 1 < k → c1 = b1) (e2 : 2 < k → c2 = b2) (e3 : 3 < k → c3 = b3) : Lib.decodeN k b0 c1 c2 c3 = Lib.decodeN n b0 b1 b2 b3 := by
  rcases Nat.lt_or_ge 3 k with h | h
  · rw [e1 (by omega), e2 (by omega), e3 h]
    unfold Lib.decodeN
    have : (1 < k) = (1 < n) := by simp; omega
    have : (2 < k) = (2 < n) := by simp; omega
    have : (3 < k) = (3 < n) := by simp; omega
    simp_all
  · rcases Nat.lt_or_ge 2 k with h2 | h2
    · obtain rfl : k = 3 := by omega
      rw [e1 (by omega), e2 (by omega)]
      unfold Lib.decodeN at hw ⊢
      repeat' split at hw
      all_goals (repeat' split)
      all_goals first | rfl | (exfalso; simp only at hw; omega) | (exfalso; omega)
    · rcases Nat.lt_or_ge 1 k with h3 | h3
      · obtain rfl : k = 2 := by omega
        rw [e1 (by omega)]
        unfold Lib.decodeN at hw ⊢
        repeat' split at hw
        all_goals (repeat' split)
        all_goals first | rfl | (exfalso; simp only at hw; omega) | (exfalso; omega)
      · obtain rfl : k = 1 := by omega
        unfold Lib.decodeN at hw ⊢
        repeat' split at hw
        all_goals (repeat' split)
        all_goals first | rfl | (exfalso; simp only at hw; omega) | (exfalso; omega)

theorem decodeL_take (l : List UInt8) (k : Nat) (hw : (Lib.decodeL l).2 ≤ k) (hk1 : 1 ≤ k) (hk : k ≤ l.length) : Lib.decodeL (l.take k) = Lib.decodeL l := by
  rw [Lib.decodeL_N, Lib.decodeL_N] at *
  have hlen : (l.take k).length = k := by simp [hk]
  rw [hlen]
  have hg : ∀ i, i < k → (l.take k).getD i 0 = l.getD i 0 := by intro i hi; simp [List.getD_eq_getElem?_getD, hi]
  rw [hg 0 (by omega)]
  exact decodeN_take _ _ _ _ _ _ _ _ _ hk1 hk hw (fun h => by rw [hg 1 h]) (fun h => by rw [hg 2 h]) (fun h => by rw [hg 3 h])

theorem decodeL_pos (l : List UInt8) : 1 ≤ (Lib.decodeL l).2 := (decode_width _ 0).1

/-! ### a text's runes, by its bytes -/

def runesBF : Nat → List UInt8 → List Nat
  | 0, _ => []
  | f + 1, l => if l = [] then [] else (Lib.decodeL l).1 :: runesBF f (l.drop (Lib.decodeL l).2)

def runesB (l : List UInt8) : List Nat := runesBF l.length l

theorem runesBF_more : ∀ (f g : Nat) (l : List UInt8), l.length ≤ f → l.length ≤ g → runesBF f l = runesBF g l
  | 0, g, l, h, _ => by
    obtain rfl : l = [] := List.eq_nil_of_length_eq_zero (by omega)
    cases g <;> simp [runesBF]
  | f + 1, 0, l, _, h => by
    obtain rfl : l = [] := List.eq_nil_of_length_eq_zero (by omega)
    simp [runesBF]
  | f + 1, g + 1, l, h1, h2 => by
    rw [runesBF, runesBF]
    by_cases hl : l = []
    · simp [hl]
    · rw [if_neg hl, if_neg hl]
      have := decodeL_pos l
      have hp : 0 < l.length := List.length_pos_iff.2 hl
      rw [runesBF_more f g _ (by simp; omega) (by simp; omega)]

theorem runesB_nil : runesB [] = [] := rfl
theorem runesB_step (l : List UInt8) (h : l ≠ []) : runesB l = (Lib.decodeL l).1 :: runesB (l.drop (Lib.decodeL l).2) := by
  unfold runesB
  have hp : 0 < l.length := List.length_pos_iff.2 h
  obtain ⟨m, hm⟩ : ∃ m, l.length = m + 1 := ⟨l.length - 1, by omega⟩
  rw [hm, runesBF, if_neg h]
  have := decodeL_pos l
  rw [runesBF_more m _ _ (by simp; omega) (Nat.le_refl _)]

theorem runesAt_B (s : ByteArray) (pos : Nat) : runesAt s pos = runesB (s.data.toList.drop pos) := by
  obtain ⟨n, hn⟩ : ∃ n, s.size - pos = n := ⟨_, rfl⟩
  have hsz : s.data.toList.length = s.size := by rw [Array.length_toList]; rfl
  induction n using Nat.strongRecOn generalizing pos with
  | ind n ih =>
    by_cases h : pos < s.size
    · have hw := (decode_width s pos).1
      have hne : s.data.toList.drop pos ≠ [] := by intro e; have := List.drop_eq_nil_iff.1 e; omega
      rw [runesAt_step s pos h, runesB_step _ hne, Lib.decodeL_drop, List.drop_drop]
      rw [ih (s.size - (pos + (Utf8.decode s pos).2)) (by omega) _ rfl]
    · rw [runesAt_end s pos h, List.drop_of_length_le (by omega)]; rfl

theorem runesOf_B (s : ByteArray) : runesOf s = runesB s.data.toList := by
  have := runesAt_B s 0
  simpa [runesOf] using this

/-- a place at which a rune ends -/
inductive Bd : List UInt8 → Nat → Prop
  | zero (l : List UInt8) : Bd l 0
  | step {l : List UInt8} {k : Nat} (h : l ≠ []) (hk : Bd (l.drop (Lib.decodeL l).2) k) : Bd l ((Lib.decodeL l).2 + k)

theorem Bd.le {l : List UInt8} {k : Nat} (h : Bd l k) : k ≤ l.length := by
  induction h with
  | zero l => exact Nat.zero_le _
  | step h hk ih =>
    rename_i l k
    have := Lib.decodeL_le l h
    simp at ih
    omega

theorem Bd.snoc {l : List UInt8} {k : Nat} (h : Bd l k) (hne : l.drop k ≠ []) : Bd l (k + (Lib.decodeL (l.drop k)).2) := by
  induction h with
  | zero l =>
    have hl : l ≠ [] := by simpa using hne
    have := Bd.step hl (Bd.zero _)
    simpa using this
  | step h hk ih =>
    rename_i l k
    rw [← List.drop_drop] at hne ⊢
    have := Bd.step h (ih hne)
    rwa [← Nat.add_assoc] at this

theorem Bd.split {l : List UInt8} {k : Nat} (h : Bd l k) : runesB l = runesB (l.take k) ++ runesB (l.drop k) := by
  induction h with
  | zero l => simp [runesB_nil]
  | step h hk ih =>
    rename_i l k
    have hle := (Bd.step h hk).le
    have hp := decodeL_pos l
    have hl : 0 < l.length := List.length_pos_iff.2 h
    have hne : l.take ((Lib.decodeL l).2 + k) ≠ [] := by
      intro e
      have := congrArg List.length e
      rw [List.length_take, List.length_nil] at this
      omega
    rw [runesB_step l h, ih, runesB_step _ hne, decodeL_take l _ (by omega) (by omega) hle, List.drop_drop, List.drop_take, Nat.add_sub_cancel_left]
    rfl

/-! ### what is encoded is decoded -/

theorem u8_nat (x : Nat) (h : x < 256) : ((x : Int).toNat.toUInt8).toNat = x := by
  simp
  omega

theorem get4 (a b c d : UInt8) (t : List UInt8) : (a :: b :: c :: d :: t).getD 0 0 = a ∧ (a :: b :: c :: d :: t).getD 1 0 = b ∧ (a :: b :: c :: d :: t).getD 2 0 = c ∧ (a :: b :: c :: d :: t).getD 3 0 = d := ⟨rfl, rfl, rfl, rfl⟩

set_option maxRecDepth 100000 in
theorem encode_dec (r : Nat) (hv : Utf8.valid (r : Int) = true) (t : List UInt8) : Lib.decodeL (Lib.encodeRune (r : Int) ++ t) = (r, (Lib.encodeRune (r : Int)).length) := by
  rw [Lib.decodeL_N]
  unfold Lib.encodeRune
  by_cases h1 : r < 128
  · rw [Lib.encodeRuneZ_one (by omega) (by omega)]
    simp only [List.map_cons, List.map_nil, List.cons_append, List.nil_append, List.getD_cons_zero, List.length_cons, List.length_nil]
    rw [u8_nat r (by omega)]
    unfold Lib.decodeN
    rw [if_pos h1]
  · by_cases h2 : r < 2048
    · rw [Lib.encodeRuneZ_two (by omega) (by omega)]
      have e1 : (192 + (r : Int) / 64) = ((192 + r / 64 : Nat) : Int) := by omega
      have e2 : (128 + (r : Int) % 64) = ((128 + r % 64 : Nat) : Int) := by omega
      rw [e1, e2]
      simp only [List.map_cons, List.map_nil, List.cons_append, List.nil_append, List.getD_cons_zero, List.getD_cons_succ, List.length_cons, List.length_nil]
      rw [u8_nat _ (by omega), u8_nat _ (by omega)]
      unfold Lib.decodeN
      rw [if_neg (by omega), if_pos ⟨by omega, by omega, by omega⟩, if_pos (by omega)]
      ext <;> simp <;> omega
    · by_cases h3 : r < 65536
      · have hs : (r < 55296) ∨ (57343 < r) := by
          simp [Utf8.valid] at hv
          omega
        rw [Lib.encodeRuneZ_three (by omega)]
        have e1 : (224 + (r : Int) / 4096) = ((224 + r / 4096 : Nat) : Int) := by omega
        have e2 : (128 + (r : Int) / 64 % 64) = ((128 + r / 64 % 64 : Nat) : Int) := by omega
        have e3 : (128 + (r : Int) % 64) = ((128 + r % 64 : Nat) : Int) := by omega
        rw [e1, e2, e3]
        simp only [List.map_cons, List.map_nil, List.cons_append, List.nil_append, List.getD_cons_zero, List.getD_cons_succ, List.length_cons, List.length_nil]
        rw [u8_nat _ (by omega), u8_nat _ (by omega), u8_nat _ (by omega)]
        unfold Lib.decodeN
        have hc : (224 + r / 4096) % 16 * 4096 + (128 + r / 64 % 64) % 64 * 64 + (128 + r % 64) % 64 = r := by omega
        rw [if_neg (by omega), if_neg (by omega), if_pos ⟨by omega, ⟨by omega, by omega⟩, by omega, by omega⟩, hc, if_pos (by omega)]
      · have hs : r ≤ 1114111 := by
          simp [Utf8.valid] at hv
          omega
        have hz : Lib.encodeRuneZ (r : Int) = [240 + (r : Int) / 262144, 128 + (r : Int) / 4096 % 64, 128 + (r : Int) / 64 % 64, 128 + (r : Int) % 64] := by
          unfold Lib.encodeRuneZ
          rw [if_neg (by omega), if_neg (by omega), if_neg (by omega), if_pos (by omega)]
        rw [hz]
        have e0 : (240 + (r : Int) / 262144) = ((240 + r / 262144 : Nat) : Int) := by omega
        have e1 : (128 + (r : Int) / 4096 % 64) = ((128 + r / 4096 % 64 : Nat) : Int) := by omega
        have e2 : (128 + (r : Int) / 64 % 64) = ((128 + r / 64 % 64 : Nat) : Int) := by omega
        have e3 : (128 + (r : Int) % 64) = ((128 + r % 64 : Nat) : Int) := by omega
        rw [e0, e1, e2, e3]
        simp only [List.map_cons, List.map_nil, List.cons_append, List.nil_append, List.getD_cons_zero, List.getD_cons_succ, List.length_cons, List.length_nil]
        rw [u8_nat _ (by omega), u8_nat _ (by omega), u8_nat _ (by omega), u8_nat _ (by omega)]
        unfold Lib.decodeN
        have hc : (240 + r / 262144) % 8 * 262144 + (128 + r / 4096 % 64) % 64 * 4096 + (128 + r / 64 % 64) % 64 * 64 + (128 + r % 64) % 64 = r := by omega
        rw [if_neg (by omega), if_neg (by omega), if_neg (by omega), if_pos ⟨by omega, ⟨by omega, by omega⟩, ⟨by omega, by omega⟩, by omega, by omega⟩, hc, if_pos (by omega)]

/-- runes that may be encoded -/
def Valid (L : List Nat) : Prop := ∀ r, r ∈ L → Utf8.valid (r : Int) = true

theorem encode_ne (r : Int) : Lib.encodeRune r ≠ [] := by
  unfold Lib.encodeRune Lib.encodeRuneZ
  repeat' split
  all_goals simp

theorem runesB_enc (L : List Nat) (hL : Valid L) : runesB (encB L) = L := by
  induction L with
  | nil => rfl
  | cons r L ih =>
    have e : encB (r :: L) = Lib.encodeRune (r : Int) ++ encB L := by simp [encB]
    have hne : Lib.encodeRune (r : Int) ++ encB L ≠ [] := by simp [encode_ne]
    rw [e, runesB_step _ hne, encode_dec r (hL r (List.mem_cons_self ..)), List.drop_left, ih fun x hx => hL x (List.mem_cons_of_mem _ hx)]

theorem runesOf_txt (L : List Nat) (hL : Valid L) : runesOf (txt L) = L := by
  rw [runesOf_B]
  exact runesB_enc L hL

theorem decode_valid (s : ByteArray) (i : Nat) : Utf8.valid (((Utf8.decode s i).1 : Nat) : Int) = true := by
  have hb := UInt8.toNat_lt (s.get! i)
  simp only [Utf8.decode, Nat.add_zero]
  repeat' split
  all_goals first
    | (simp [Utf8.valid, Utf8.runeError]; done)
    | (rename_i h; simp only [Bool.and_eq_true] at h; exact h.2)
    | (simp [Utf8.valid]; omega)

theorem runesOf_valid (s : ByteArray) : Valid (runesOf s) := by
  have h : ∀ n pos, s.size - pos = n → Valid (runesAt s pos) := by
    intro n
    induction n using Nat.strongRecOn with
    | ind n ih =>
      intro pos hn
      by_cases hp : pos < s.size
      · rw [runesAt_step s pos hp]
        have hw := (decode_width s pos).1
        intro r hr
        rcases List.mem_cons.1 hr with rfl | hr
        · exact decode_valid s pos
        · exact ih (s.size - (pos + (Utf8.decode s pos).2)) (by omega) _ rfl r hr
      · rw [runesAt_end s pos hp]; intro r hr; cases hr
  exact h _ 0 rfl
end Go.Proofs.YtjjidmgeladicaaDoor
