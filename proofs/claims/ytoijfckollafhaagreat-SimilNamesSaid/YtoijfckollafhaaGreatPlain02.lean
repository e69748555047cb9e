/- simileref02.Plain: a text with plain runes. -/
import Derived.Test.YtoijfckollafhaaGreatSay
import Derived.Laws.Cover4
namespace Go.Proofs.YtoijfckollafhaaGreat
open Go.RowKit

theorem utf8_nat (r : Nat) : Utf8.encode (r : Int) = ⟨(Lib.encodeRune (r : Int)).toArray⟩ := by
  unfold Lib.encodeRune
  by_cases h1 : r < 128
  · rw [Lib.encodeRuneZ_one (by omega) (by omega)]
    have hv : Utf8.valid (r : Int) = true := by simp [Utf8.valid]; omega
    unfold Utf8.encode
    simp only [hv, if_true, Int.toNat_natCast]
    rw [if_pos (by omega)]
    simp
  · by_cases h2 : r < 2048
    · rw [Lib.encodeRuneZ_two (by omega) (by omega)]
      have hv : Utf8.valid (r : Int) = true := by simp [Utf8.valid]; omega
      unfold Utf8.encode
      simp only [hv, if_true, Int.toNat_natCast]
      rw [if_neg (by omega), if_pos (by omega)]
      have e1 : (192 + (r : Int) / 64).toNat = 192 + r / 64 := by omega
      have e2 : (128 + (r : Int) % 64).toNat = 128 + r % 64 := by omega
      simp [e1, e2]
    · by_cases hs : 55296 ≤ r ∧ r ≤ 57343 ∨ 1114111 < r
      · have hv : Utf8.valid (r : Int) = false := by
          cases h : Utf8.valid (r : Int)
          · rfl
          · simp [Utf8.valid] at h; omega
        have hz : Lib.encodeRuneZ (r : Int) = [239, 191, 189] := by
          unfold Lib.encodeRuneZ
          rw [if_neg (by omega), if_neg (by omega), if_neg (by omega), if_neg (by omega)]
        rw [hz]
        unfold Utf8.encode
        simp only [hv, Bool.false_eq_true, if_false]
        decide
      · have hv : Utf8.valid (r : Int) = true := by simp [Utf8.valid]; omega
        by_cases h3 : r < 65536
        · rw [Lib.encodeRuneZ_three (by omega)]
          unfold Utf8.encode
          simp only [hv, if_true, Int.toNat_natCast]
          rw [if_neg (by omega), if_neg (by omega), if_pos (by omega)]
          have e1 : (224 + (r : Int) / 4096).toNat = 224 + r / 4096 := by omega
          have e2 : (128 + (r : Int) / 64 % 64).toNat = 128 + r / 64 % 64 := by omega
          have e3 : (128 + (r : Int) % 64).toNat = 128 + r % 64 := by omega
          simp [e1, e2, e3]
        · have hz : Lib.encodeRuneZ (r : Int) = [240 + (r : Int) / 262144, 128 + (r : Int) / 4096 % 64, 128 + (r : Int) / 64 % 64, 128 + (r : Int) % 64] := by
            unfold Lib.encodeRuneZ
            rw [if_neg (by omega), if_neg (by omega), if_neg (by omega), if_pos (by omega)]
          rw [hz]
          unfold Utf8.encode
          simp only [hv, if_true, Int.toNat_natCast]
          rw [if_neg (by omega), if_neg (by omega), if_neg (by omega)]
          have e0 : (240 + (r : Int) / 262144).toNat = 240 + r / 262144 := by omega
          have e1 : (128 + (r : Int) / 4096 % 64).toNat = 128 + r / 4096 % 64 := by omega
          have e2 : (128 + (r : Int) / 64 % 64).toNat = 128 + r / 64 % 64 := by omega
          have e3 : (128 + (r : Int) % 64).toNat = 128 + r % 64 := by omega
          simp [e0, e1, e2, e3]

theorem runesBytes_txt (L : List Nat) : runesBytes (L.map fun (r : Nat) => (r : Int)) = txt L := by
  have h : ∀ (L : List Nat) (a : List UInt8), (L.map fun (r : Nat) => (r : Int)).foldl (fun r n => r ++ Utf8.encode n) ⟨a.toArray⟩ = (⟨(a ++ encB L).toArray⟩ : ByteArray) := by
    intro L
    induction L with
    | nil => intro a; simp [encB]
    | cons r L ih =>
      intro a
      rw [List.map_cons, List.foldl_cons, utf8_nat]
      have e : (⟨a.toArray⟩ : ByteArray) ++ ⟨(Lib.encodeRune (r : Int)).toArray⟩ = ⟨(a ++ Lib.encodeRune (r : Int)).toArray⟩ := by
        apply ByteArray.ext
        simp
      rw [e, ih]
      simp [encB]
  have := h L []
  exact this

end Go.Proofs.YtoijfckollafhaaGreat
