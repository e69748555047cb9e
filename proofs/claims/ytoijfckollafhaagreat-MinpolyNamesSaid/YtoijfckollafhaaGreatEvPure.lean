/- Operations that look into no memory. -/
import Derived.Test.YtoijfckollafhaaGreatEvOps
import Derived.Laws.Bits64
namespace Go.Ev
open Go.RowKit

/-- wrapping, where the number fits already: as it is -/
def ewrap (k : IntKind) (n : Int) : Int :=
  match k, n with
  | .i64, .ofNat m => bif Nat.blt m 9223372036854775808 then .ofNat m else k.wrap n
  | .u64, .ofNat m => .ofNat (m % 18446744073709551616)
  | .u32, .ofNat m => .ofNat (m % 4294967296)
  | .u8, .ofNat m => .ofNat (m % 256)
  | .i64, .negSucc m => bif Nat.blt m 9223372036854775808 then .negSucc m else k.wrap n
  | .u64, .negSucc m => .ofNat (18446744073709551615 - m % 18446744073709551616)
  | .u32, .negSucc m => .ofNat (4294967295 - m % 4294967296)
  | k, n => k.wrap n

theorem negSucc_mod (m M : Nat) (hM : 0 < M) : ((M - 1 - m % M : Nat) : Int) = Int.negSucc m % (M : Int) := by
  have e : Int.negSucc m = -(m : Int) - 1 := by omega
  rw [e]
  have h1 := Nat.mod_lt m hM
  have h2 := Nat.div_add_mod m M
  have : (-(m : Int) - 1) = ((M - 1 - m % M : Nat) : Int) + (M : Int) * (-((m / M : Nat) : Int) - 1) := by
    have h3 : ((M - 1 - m % M : Nat) : Int) = (M : Int) - 1 - ((m % M : Nat) : Int) := by omega
    rw [h3, Int.mul_sub, Int.mul_neg]
    have h4 : (M : Int) * ((m / M : Nat) : Int) + ((m % M : Nat) : Int) = (m : Int) := by exact_mod_cast h2
    omega
  rw [this, Int.add_mul_emod_self_left]
  exact (Int.emod_eq_of_lt (by omega) (by omega)).symm

theorem ewrap_i64_pos (m : Nat) : ewrap .i64 (.ofNat m) = IntKind.i64.wrap (.ofNat m) := by
  show (bif Nat.blt m 9223372036854775808 then Int.ofNat m else IntKind.i64.wrap (.ofNat m)) = _
  cases h : Nat.blt m 9223372036854775808 with
  | false => rw [cond_false]
  | true =>
    have hm : m < 9223372036854775808 := by simpa using h
    rw [cond_true, IntKind.wrap_i64]
    have e : Int.ofNat m = (m : Int) := rfl
    rw [e]; omega
theorem ewrap_i64_neg (m : Nat) : ewrap .i64 (.negSucc m) = IntKind.i64.wrap (.negSucc m) := by
  show (bif Nat.blt m 9223372036854775808 then Int.negSucc m else IntKind.i64.wrap (.negSucc m)) = _
  cases h : Nat.blt m 9223372036854775808 with
  | false => rw [cond_false]
  | true =>
    have hm : m < 9223372036854775808 := by simpa using h
    have h0 : Int.negSucc m = -((m : Int) + 1) := Int.negSucc_eq m
    rw [cond_true, IntKind.wrap_i64, h0]
    omega
theorem ewrap_u64_pos (m : Nat) : ewrap .u64 (.ofNat m) = IntKind.u64.wrap (.ofNat m) := by
  rw [IntKind.wrap_u64]
  show ((m % 18446744073709551616 : Nat) : Int) = (m : Int) % 18446744073709551616
  omega
theorem ewrap_u64_neg (m : Nat) : ewrap .u64 (.negSucc m) = IntKind.u64.wrap (.negSucc m) := by
  rw [IntKind.wrap_u64]
  exact negSucc_mod m 18446744073709551616 (by omega)
theorem ewrap_u32_pos (m : Nat) : ewrap .u32 (.ofNat m) = IntKind.u32.wrap (.ofNat m) := by
  rw [IntKind.wrap_u32]
  show ((m % 4294967296 : Nat) : Int) = (m : Int) % 4294967296
  omega
theorem ewrap_u32_neg (m : Nat) : ewrap .u32 (.negSucc m) = IntKind.u32.wrap (.negSucc m) := by
  rw [IntKind.wrap_u32]
  exact negSucc_mod m 4294967296 (by omega)
theorem ewrap_u8_pos (m : Nat) : ewrap .u8 (.ofNat m) = IntKind.u8.wrap (.ofNat m) := by
  rw [IntKind.wrap_u8]
  show ((m % 256 : Nat) : Int) = (m : Int) % 256
  omega
theorem ewrap_eq (k : IntKind) (n : Int) : ewrap k n = k.wrap n := by
  cases k <;> cases n
  case i64.ofNat m => exact ewrap_i64_pos m
  case i64.negSucc m => exact ewrap_i64_neg m
  case u64.ofNat m => exact ewrap_u64_pos m
  case u64.negSucc m => exact ewrap_u64_neg m
  case u32.ofNat m => exact ewrap_u32_pos m
  case u32.negSucc m => exact ewrap_u32_neg m
  case u8.ofNat m => exact ewrap_u8_pos m
  all_goals rfl

def isOp (a b : BinOp) : Bool := decide (a = b)

/-- integers -/
def eInt (op : BinOp) (k : IntKind) (x y : Int) : Option AV :=
  match op with
  | .add => some (.int k (ewrap k (x + y)))
  | .sub => some (.int k (ewrap k (x - y)))
  | .mul => some (.int k (ewrap k (x * y)))
  | .quo => if y = 0 then none else some (.int k (ewrap k (x.tdiv y)))
  | .rem => if y = 0 then none else some (.int k (x.tmod y))
  | .and => some (.int k (ewrap k ((BitVec.ofInt k.bits x &&& BitVec.ofInt k.bits y).toNat)))
  | .or => some (.int k (ewrap k ((BitVec.ofInt k.bits x ||| BitVec.ofInt k.bits y).toNat)))
  | .xor => some (.int k (ewrap k ((BitVec.ofInt k.bits x ^^^ BitVec.ofInt k.bits y).toNat)))
  | .andNot => some (.int k (ewrap k ((BitVec.ofInt k.bits x &&& ~~~ BitVec.ofInt k.bits y).toNat)))
  | .eql => some (.bool (decide (x = y)))
  | .neq => some (.bool (!decide (x = y)))
  | .lss => some (.bool (decide (x < y)))
  | .leq => some (.bool (decide (x ≤ y)))
  | .gtr => some (.bool (decide (y < x)))
  | .geq => some (.bool (decide (y ≤ x)))
  | _ => none

def eShift (op : BinOp) (k : IntKind) (x y : Int) : Option AV :=
  if y < 0 then none else
  match op with
  | .shl => some (.int k (ewrap k (x * ((2 ^ min y.toNat k.bits : Nat) : Int))))
  | .shr => some (.int k (x.fdiv ((2 ^ min y.toNat k.bits : Nat) : Int)))
  | _ => none

def eStr (op : BinOp) (x y : ByteArray) : Option AV :=
  match op with
  | .add => bif Nat.ble (x.size + y.size) 9223372036854775807 then some (.str (x ++ y)) else none
  | .eql => some (.bool (x.toList == y.toList))
  | .neq => some (.bool (!(x.toList == y.toList)))
  | _ => none

def eEq (C : Cx) (t : TypeId) (lit : Bool) (a b : AV) : Option Bool :=
  match C.und t, a, b with
  | some .bool, .bool x, .bool y => some (x == y)
  | some (.pointer _), .nilp, .nilp => some true
  | some (.pointer _), .nilp, .ptr _ _ => some false
  | some (.pointer _), .ptr _ _, .nilp => some false
  | some (.slice _), .nils, .nils => some true
  | some (.slice _), .nils, .sl _ _ _ _ _ _ => some false
  | some (.slice _), .nils, .sle => some false
  | some (.slice _), .sl _ _ _ _ _ _, .nils => some false
  | some (.slice _), .sle, .nils => some false
  | some (.func _ _ _), .nilf, .nilf => some true
  | some (.func _ _ _), .nilf, .fn _ _ _ => some false
  | some (.func _ _ _), .fn _ _ _, .nilf => some false
  | some (.interface _), .nili, .nili => bif lit then some true else none
  | some (.interface _), .nili, .ifc _ _ => some false
  | some (.interface _), .ifc _ _, .nili => some false
  | some (.map _ _), .nilm, .nilm => some true
  | some (.map _ _), .nilm, .mp _ => some false
  | some (.map _ _), .mp _, .nilm => some false
  | _, _, _ => none

def isConst : Operand → Bool
  | .const _ => true
  | _ => false

def eBin (C : Cx) (op : BinOp) (t : TypeId) (x y : Operand) (a b : AV) : Option AV :=
  match a, b with
  | .int k m, .int k' n => match op with
    | .shl => eShift .shl k m n
    | .shr => eShift .shr k m n
    | op => if k = k' then eInt op k m n else none
  | .str s, .str u => eStr op s u
  | a, b => match op with
    | .eql => match eEq C t (isConst x || isConst y) a b with
      | some r => some (.bool r)
      | none => none
    | .neq => match eEq C t (isConst x || isConst y) a b with
      | some r => some (.bool (!r))
      | none => none
    | _ => none

section
variable {P : Program} {φ : Ren} {w : World}

theorem eInt_ok {op : BinOp} {k : IntKind} {x y : Int} {v : AV} (e : eInt op k x y = some v) (h1 : op ≠ .shl) (h2 : op ≠ .shr) (t : TypeId) :
    ∃ u, (binOp op t (.int k x) (.int k y)).run P w = .ok u w ∧ VRel φ v u := by
  cases op <;> simp only [eInt] at e <;> try (cases e; done)
  case quo =>
    split at e
    · cases e
    · rename_i hy; cases e; exact ⟨.int k (k.wrap (x.tdiv y)), by simp [binOp, Op.intDiv, hy], by rw [ewrap_eq]; exact .int _ _⟩
  case rem =>
    split at e
    · cases e
    · rename_i hy; cases e; exact ⟨.int k (x.tmod y), by simp [binOp, Op.intDiv, hy], .int _ _⟩
  case add => cases e; exact ⟨_, by simp [binOp, Op.intArith]; rfl, by rw [ewrap_eq]; exact .int _ _⟩
  case sub => cases e; exact ⟨_, by simp [binOp, Op.intArith]; rfl, by rw [ewrap_eq]; exact .int _ _⟩
  case mul => cases e; exact ⟨_, by simp [binOp, Op.intArith]; rfl, by rw [ewrap_eq]; exact .int _ _⟩
  case and => cases e; exact ⟨.int k (k.wrap ((BitVec.ofInt k.bits x &&& BitVec.ofInt k.bits y).toNat)), by simp [binOp, Op.intBits], by rw [ewrap_eq]; exact .int _ _⟩
  case or => cases e; exact ⟨.int k (k.wrap ((BitVec.ofInt k.bits x ||| BitVec.ofInt k.bits y).toNat)), by simp [binOp, Op.intBits], by rw [ewrap_eq]; exact .int _ _⟩
  case xor => cases e; exact ⟨.int k (k.wrap ((BitVec.ofInt k.bits x ^^^ BitVec.ofInt k.bits y).toNat)), by simp [binOp, Op.intBits], by rw [ewrap_eq]; exact .int _ _⟩
  case andNot => cases e; exact ⟨.int k (k.wrap ((BitVec.ofInt k.bits x &&& ~~~ BitVec.ofInt k.bits y).toNat)), by simp [binOp, Op.intBits], by rw [ewrap_eq]; exact .int _ _⟩
  case eql => cases e; exact ⟨.bool (x == y), by simp [binOp, Op.intCmp], by rw [show (x == y) = decide (x = y) from rfl]; exact .bool _⟩
  case neq => cases e; exact ⟨.bool (x != y), by simp [binOp, Op.intCmp], by rw [show (x != y) = !decide (x = y) from rfl]; exact .bool _⟩
  case lss => cases e; exact ⟨.bool (decide (x < y)), by simp [binOp, Op.intCmp], .bool _⟩
  case leq => cases e; exact ⟨.bool (decide (x ≤ y)), by simp [binOp, Op.intCmp], .bool _⟩
  case gtr => cases e; exact ⟨.bool (decide (x > y)), by simp [binOp, Op.intCmp], .bool _⟩
  case geq => cases e; exact ⟨.bool (decide (x ≥ y)), by simp [binOp, Op.intCmp], .bool _⟩

theorem eShift_ok {op : BinOp} {k : IntKind} {x y : Int} {v : AV} (e : eShift op k x y = some v) (h : op = .shl ∨ op = .shr) (t : TypeId) (k' : IntKind) :
    ∃ u, (binOp op t (.int k x) (.int k' y)).run P w = .ok u w ∧ VRel φ v u := by
  unfold eShift at e
  split at e
  · cases e
  · rename_i hy
    rcases h with rfl | rfl
    · cases e; exact ⟨.int k (k.wrap (x * 2 ^ min y.toNat k.bits)), by simp [binOp, Op.shift, hy], by rw [ewrap_eq]; simp only [Int.natCast_pow]; exact .int _ _⟩
    · cases e; exact ⟨.int k (x.fdiv (2 ^ min y.toNat k.bits)), by simp [binOp, Op.shift, hy], by simp only [Int.natCast_pow]; exact .int _ _⟩

theorem eStr_ok {op : BinOp} {x y : ByteArray} {v : AV} (e : eStr op x y = some v) (t : TypeId) :
    ∃ u, (binOp op t (.string x) (.string y)).run P w = .ok u w ∧ VRel φ v u := by
  cases op <;> simp only [eStr] at e <;> try (cases e; done)
  case add =>
    cases h : Nat.ble (x.size + y.size) 9223372036854775807 with
    | false => rw [h] at e; cases e
    | true =>
      rw [h] at e; cases e
      have := Nat.le_of_ble_eq_true h
      have hn : ¬ (9223372036854775807 < (x.size : Int) + (y.size : Int)) := by omega
      exact ⟨.string (x ++ y), by simp [binOp, Op.stringOp, IntKind.max, IntKind.signed, IntKind.bits, hn], .str _⟩
  case eql => cases e; exact ⟨.bool (x.toList == y.toList), by simp [binOp, Op.stringOp], .bool _⟩
  case neq => cases e; exact ⟨.bool (!(x.toList == y.toList)), by simp [binOp, Op.stringOp], .bool _⟩

theorem eEq_ok {C : Cx} (hC : CxOk P C) {t : TypeId} {lit : Bool} {a b : AV} {r : Bool} (e : eEq C t lit a b = some r) {u v : Value} (ha : VRel φ a u) (hb : VRel φ b v) :
    (Op.equal t u v).run P w = .ok r w := by
  obtain ⟨d, hd⟩ : ∃ d, Op.maxDepth = d + 1 := ⟨9999, rfl⟩
  unfold Op.equal
  rw [hd]
  unfold eEq at e
  split at e <;> try (cases e; done)
  all_goals (rename_i hu; first | (cases ha; cases hb; cases e; simp [Op.equalIn, run_und hC hu]; done) | skip)
  cases ha; cases hb
  cases hl : lit with
  | false => rw [hl] at e; cases e
  | true => rw [hl] at e; cases e; simp [Op.equalIn, run_und hC hu]

theorem eqGuard_nils {op : BinOp} {t : TypeId} {x y : Operand} (h : (isConst x || isConst y) = true) : (eqGuard op t x y .nilIface .nilIface).run P w = .ok () w := by
  unfold eqGuard
  cases x <;> cases y <;> first | (simp [isConst] at h; done) | (split <;> simp)

theorem eqGuard_ok {C : Cx} {op : BinOp} {t : TypeId} {x y : Operand} {a b : AV} {r : Bool} (e : eEq C t (isConst x || isConst y) a b = some r) {u v : Value} (ha : VRel φ a u) (hb : VRel φ b v) :
    (eqGuard op t x y u v).run P w = .ok () w := by
  unfold eEq at e
  split at e <;> try (cases e; done)
  all_goals (cases ha; cases hb; first | (unfold eqGuard; split <;> simp; done) | skip)
  cases hl : (isConst x || isConst y) with
  | false => rw [hl] at e; cases e
  | true => exact eqGuard_nils hl

theorem eBin_ok {C : Cx} (hC : CxOk P C) {op : BinOp} {t : TypeId} {x y : Operand} {a b v : AV} (e : eBin C op t x y a b = some v) {u u' : Value} (ha : VRel φ a u) (hb : VRel φ b u') :
    ∃ r, (do eqGuard op t x y u u'; binOp op t u u' : Sem Value).run P w = .ok r w ∧ VRel φ v r := by
  unfold eBin at e
  split at e
  · cases ha; cases hb
    rename_i k m k' n
    have hg : ∀ op, (eqGuard op t x y (.int k m) (.int k' n)).run P w = .ok () w := by intro op; unfold eqGuard; split <;> simp
    simp only [Sem.run_bind, hg, Result.andThen_ok]
    split at e
    · exact eShift_ok e (.inl rfl) t k'
    · exact eShift_ok e (.inr rfl) t k'
    · split at e
      · rename_i hk; subst hk
        exact eInt_ok e (by assumption) (by assumption) t
      · cases e
  · cases ha; cases hb
    rename_i s s'
    have hg : ∀ op, (eqGuard op t x y (.string s) (.string s')).run P w = .ok () w := by intro op; unfold eqGuard; split <;> simp
    simp only [Sem.run_bind, hg, Result.andThen_ok]
    exact eStr_ok e t
  · rename_i hni hns
    split at e
    · split at e
      · rename_i r hr
        cases e
        simp only [Sem.run_bind, eqGuard_ok hr ha hb, Result.andThen_ok]
        have hq := eEq_ok (P := P) (w := w) hC hr ha hb
        refine ⟨.bool r, ?_, .bool r⟩
        have : binOp .eql t u u' = (do pure (.bool (← Op.equal t u u')) : Sem Value) := by
          cases ha <;> cases hb <;> first | rfl | (exact absurd rfl (by first | exact (hni _ _ _ _ rfl ·) | exact (hns _ _ rfl ·)))
        rw [this]; simp [hq]
      · cases e
    · split at e
      · rename_i r hr
        cases e
        simp only [Sem.run_bind, eqGuard_ok hr ha hb, Result.andThen_ok]
        have hq := eEq_ok (P := P) (w := w) hC hr ha hb
        refine ⟨.bool (!r), ?_, .bool (!r)⟩
        have : binOp .neq t u u' = (do pure (.bool (!(← Op.equal t u u'))) : Sem Value) := by
          cases ha <;> cases hb <;> first | rfl | (exact absurd rfl (by first | exact (hni _ _ _ _ rfl ·) | exact (hns _ _ rfl ·)))
        rw [this]; simp [hq]
      · cases e
    · cases e
end
end Go.Ev
