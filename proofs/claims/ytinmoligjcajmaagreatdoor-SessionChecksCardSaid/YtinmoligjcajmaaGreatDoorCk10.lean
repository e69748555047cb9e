/- session.name, bracket. -/
import Derived.Test.YtinmoligjcajmaaGreatDoorCk09
import Derived.Test.YtinmoligjcajmaaGreatDoorCk01
import Derived.Maps.OwnSet
import Derived.Maps.OwnOps
import Derived.Defers
import Derived.Recover
set_option linter.all false
set_option maxRecDepth 20000
set_option maxHeartbeats 6400000
namespace Go.Proofs.YtinmoligjcajmaaGreatDoor
open Go.RowKit

def nmF (z : Bool) : Tx → Bool
  | [] => true
  | c :: r => (letB c || (!z && okB c)) && nmF false r
theorem nmF_all (r : Tx) : nmF false r = r.all okB := by
  induction r with
  | nil => rfl
  | cons c r ih =>
    simp only [nmF, List.all_cons, ih]
    cases h : letB c with
    | false => simp
    | true => simp [okB, h]
theorem nameL_nmF (s : Tx) (h0 : s ≠ []) (h : s.length ≤ 20) : nameL s = nmF true s := by
  cases s with
  | nil => exact absurd rfl h0
  | cons c r =>
    simp only [nameL, nmF, nmF_all, List.all_cons]
    rw [decide_eq_true h]
    cases hc : letB c with
    | false => simp
    | true => simp [okB, hc]
theorem nameL_long (s : Tx) (h : ¬ s.length ≤ 20) : nameL s = false := by
  cases s with
  | nil => exact absurd (Nat.zero_le _) h
  | cons c r => simp only [nameL]; rw [decide_eq_false h]; rfl
theorem size_len (s : ByteArray) : s.data.toList.length = s.size := by simp only [Array.length_toList]; rfl

set_option maxHeartbeats 6400000 in
theorem name_any (s : ByteArray) (w : World) (hs : s.size ≤ 100000000) :
    Calls Tryz.prog 185 #[.string s] w fun e w' => Below w.heap.size w w' ∧ e = .returned (.bool (nameL s.data.toList)) := by
  have hsl := size_len s
  obtain ⟨T, hT⟩ : ∃ T, nameL s.data.toList = T := ⟨_, rfl⟩
  rw [hT]
  by_cases h0 : s.size = 0
  · obtain rfl := size0 s h0
    obtain rfl : false = T := hT
    go_enter Tryz.func185, Tryz.ntmps185
    go_wp2
    go_ret
    exact ⟨Below.refl _ _, rfl⟩
  · have hne : s.toList.isEmpty = false := not_nil s (by omega)
    by_cases h20 : s.size ≤ 20
    · have h20i : (s.size : Int) ≤ 20 := by omega
      rw [nameL_nmF _ (by intro h; rw [h] at hsl; simp at hsl; omega) (by omega)] at hT
      go_enter Tryz.func185, Tryz.ntmps185
      go_wp2
      have hk0 := World.iter_heap w s 0
      have hb2 : Below w.heap.size w (w.iter s 0) := (Below.refl _ _).alloc (Nat.le_refl _) _
      obtain ⟨kb, hkk⟩ : ∃ kb, w.heap.size = kb := ⟨_, rfl⟩
      obtain ⟨w2, hww⟩ : ∃ w2, w.iter s 0 = w2 := ⟨_, rfl⟩
      have hkb : w.heap.size ≤ kb := by rw [hkk]; exact Nat.le_refl _
      have HT := hid hT
      rw [hkk] at hk0 ⊢
      rw [hww] at hk0 hb2 ⊢
      clear hkk hww hT
      go_loopg [] s.size (fun gk wr => ∃ (pos : Nat), gk = s.size - pos ∧ wr.heap[kb]? = some (.stringIter s pos) ∧
          Below w.heap.size w wr ∧ T = nmF (pos == 0) (s.data.toList.drop pos) ∧ pos ≤ 100)
      case atStart => exact ⟨0, rfl, hk0, hb2, HT.out.symm, by omega⟩
      case round =>
        obtain ⟨pos, hgk, hk, hbel, hru, hp100⟩ := hrel
        have HRU := hid hru
        have HGK := hid hgk
        clear hru hgk hk0 hb2 HT
        by_cases hp : pos < s.size
        · have hnx := fun ty => Lib.run_next_any_at (P := Tryz.prog) wr kb s pos ty hk hp
          have hw := decode_width s pos
          obtain ⟨c, hc⟩ : ∃ c, s.data.toList[pos]? = some c := ⟨_, List.getElem?_eq_getElem (by omega)⟩
          have hT1 := HRU.out
          rw [drop_cons1 _ _ _ hc] at hT1
          simp only [nmF] at hT1
          have hda := dec_ascii s pos c hc
          have hdh := dec_high s pos c hc
          obtain ⟨rn, hrn⟩ : ∃ rn, (Utf8.decode s pos).1 = rn := ⟨_, rfl⟩
          obtain ⟨wd, hwd⟩ : ∃ wd, (Utf8.decode s pos).2 = wd := ⟨_, rfl⟩
          have hrc : c.toNat < 128 → rn = c.toNat ∧ wd = 1 := fun h => by rw [← hrn, ← hwd, hda h]; exact ⟨rfl, rfl⟩
          rw [hrn] at hdh
          rw [hrn, hwd] at hnx
          rw [hwd] at hw
          have hk2 := Lib.iterAt_heap wr kb s pos (pos + wd) hk
          have hbel2 := Lib.below_iterAt hbel hkb s (pos + wd)
          obtain ⟨p2, hp2⟩ : ∃ p2, pos + wd = p2 := ⟨_, rfl⟩
          rw [hp2] at hnx hk2 hbel2
          have HK := hid hk2
          clear hda hrn hwd hk2 hk hbel
          have hok : ((letB c || (!(pos == 0) && okB c)) = true ↔ ((97 ≤ rn ∧ rn ≤ 122) ∨ (65 ≤ rn ∧ rn ≤ 90) ∨ (pos ≠ 0 ∧ 48 ≤ rn ∧ rn ≤ 57))) := by
            by_cases h128 : c.toNat < 128
            · obtain ⟨rfl, -⟩ := hrc h128
              simp only [letB, okB, Bool.or_eq_true, Bool.and_eq_true, decide_eq_true_eq, Bool.not_eq_true', beq_eq_false_iff_ne]
              omega
            · have := hdh h128
              simp only [letB, okB, Bool.or_eq_true, Bool.and_eq_true, decide_eq_true_eq, Bool.not_eq_true', beq_eq_false_iff_ne]
              omega
          by_cases hk9 : (97 ≤ rn ∧ rn ≤ 122) ∨ (65 ≤ rn ∧ rn ≤ 90) ∨ (pos ≠ 0 ∧ 48 ≤ rn ∧ rn ≤ 57)
          · rw [hok.2 hk9, Bool.true_and] at hT1
            have hwd1 : wd = 1 := (hrc (by rcases Nat.lt_or_ge c.toNat 128 with h | h
                                           · exact h
                                           · have := hdh (by omega); omega)).2
            subst hwd1
            subst hp2
            clear hok hdh hrc
            go_wp2
            all_goals first
              | (go_roundg (s.size - (pos + 1))
                 case measure => have := HGK.out; omega
                 case rel => exact ⟨pos + 1, rfl, HK.out, hbel2, hT1, by omega⟩)
              | (exfalso; simp only [beq_iff_eq] at *; omega)
          · have hT2 : T = false := by
              rw [hT1, Bool.eq_false_iff.2 (fun h => hk9 (hok.1 h))]; rfl
            subst hT2
            have HK9 := hid hk9
            clear hok hdh hrc hk9 hT1 HRU hp2
            go_wp2
            all_goals first
              | (go_ret
                 exact ⟨hbel2, rfl⟩)
              | (exfalso; have hk9 := HK9.out; clear HK9; try simp only [beq_iff_eq, beq_eq_false_iff_ne, Bool.not_eq_true', Bool.not_eq_false', decide_eq_false_iff_not, decide_eq_true_eq] at *
                 omega)
        · have hnx := fun ty => Lib.run_next_end_at (P := Tryz.prog) wr kb s pos ty hk hp
          have h33 : T = true := by rw [HRU.out, List.drop_eq_nil_of_le (by omega)]; rfl
          subst h33
          go_wp2
          go_ret
          exact ⟨hbel, rfl⟩
    · have h20i : ¬ (s.size : Int) ≤ 20 := by omega
      rw [nameL_long _ (by omega)] at hT
      subst hT
      go_enter Tryz.func185, Tryz.ntmps185
      go_wp2
      go_ret
      exact ⟨Below.refl _ _, rfl⟩
end Go.Proofs.YtinmoligjcajmaaGreatDoor
/- session.bracket. -/
namespace Go.Proofs.YtinmoligjcajmaaGreatDoor
open Go.RowKit Go.Vl

/-- how a line that is none is given up -/
def gaveS : Ending := .panicked [{ v := .iface 166 (.agg #[]), recovered := false }]
theorem hp_head (s : ByteArray) (c : UInt8) : Lib.hasPrefix s.data.toList [c] = (s.data.toList.head? == some c) := by
  unfold Lib.hasPrefix
  cases s.data.toList with
  | nil => rfl
  | cons a l =>
    simp only [List.isPrefixOf, List.head?_cons, Bool.and_true]
    by_cases h : a = c
    · subst h; simp
    · have h1 : (c == a) = false := beq_eq_false_iff_ne.2 fun e => h e.symm
      have h2 : (some a == some c) = false := beq_eq_false_iff_ne.2 fun e => h (Option.some.inj e)
      rw [h1, h2]
theorem dec_skip (s : ByteArray) (i : Nat) : ∀ j, 1 ≤ j → j < (Utf8.decode s i).2 → i + j < s.size ∧ (s.get! (i + j)).toNat / 64 = 2 := by
  intro j h1 h2
  simp only [Utf8.decode] at h2
  repeat' split at h2
  all_goals (try simp only [Bool.and_eq_true, decide_eq_true_eq, beq_iff_eq] at *)
  all_goals (first | omega | (obtain rfl | rfl | rfl : j = 1 ∨ j = 2 ∨ j = 3 := by omega) <;> first | omega | (constructor <;> omega))
theorem get_at (s : ByteArray) (i : Nat) (h : i < s.size) : s.data.toList[i]? = some (s.get! i) := by
  have h2 : i < s.data.toList.length := by rw [size_len]; exact h
  obtain ⟨c, hc⟩ : ∃ c, s.data.toList[i]? = some c := ⟨_, List.getElem?_eq_getElem h2⟩
  rw [hc, get_bang s i c hc]
theorem ext_tx (s : ByteArray) (a b : Nat) (h : b ≤ s.size) : s.extract a b = tx ((s.data.toList.take b).drop a) := by
  rcases s with ⟨⟨l⟩⟩
  apply ByteArray.ext
  simp only [ByteArray.extract_mk]
  rw [← List.drop_take]
theorem ext_tx2 (s : ByteArray) (a : Nat) : s.extract a s.size = tx (s.data.toList.drop a) := by
  rw [ext_tx s a s.size (Nat.le_refl _), List.take_of_length_le (by rw [size_len]; exact Nat.le_refl _)]
/-- runs over runes pass no byte that is plain -/
theorem fi_runes {s : ByteArray} {pos : Nat} {c : UInt8} (h : pos ≤ s.data.toList.findIdx (· == 93)) (hc : s.data.toList[pos]? = some c) (h93 : c.toNat ≠ 93) :
    pos + (Utf8.decode s pos).2 ≤ s.data.toList.findIdx (· == 93) := by
  have h1 := fi_step h hc (u8_ne (c := 93) h93)
  have hk := dec_skip s pos
  have hw := decode_width s pos
  generalize (Utf8.decode s pos).2 = wd at *
  have : ∀ j, 1 ≤ j → j ≤ wd → pos + j ≤ s.data.toList.findIdx (· == 93) := by
    intro j
    induction j with
    | zero => intro h; omega
    | succ j ih =>
      intro _ hj
      by_cases h0 : j = 0
      · subst h0; exact h1
      · have h2 := ih (by omega) (by omega)
        have h3 := hk j (by omega) (by omega)
        exact fi_step h2 (get_at s (pos + j) h3.1) (u8_ne (c := 93) (by show (s.get! (pos + j)).toNat ≠ 93; omega))
  exact this wd (by omega) (Nat.le_refl _)
/-- what a text between brackets is, and what stands behind it -/
def brackL (l : Tx) : Option (Tx × Tx) :=
  if l.head? = some 91 ∧ l.findIdx (· == 93) < l.length then some ((l.take (l.findIdx (· == 93))).drop 1, l.drop (l.findIdx (· == 93) + 1)) else none
def brackE : Option (Tx × Tx) → Ending
  | some x => .returned (.tuple #[.string (tx x.1), .string (tx x.2)])
  | none => gaveS

set_option maxHeartbeats 6400000 in
theorem bracket_any (s : ByteArray) (w : World) (hs : s.size ≤ 100000000) :
    Calls Tryz.prog 186 #[.string s] w fun e w' => Below w.heap.size w w' ∧ e = brackE (brackL s.data.toList) := by
  have hsl := size_len s
  have Q1 := hid (Tryz.strings_HasPrefix s ⟨#[91]⟩ w)
  have hh : Lib.hasPrefix s.data.toList (⟨#[91]⟩ : ByteArray).data.toList = (s.data.toList.head? == some 91) := hp_head s 91
  rw [hh] at Q1
  clear hh
  obtain ⟨Z, hZ⟩ : ∃ Z, brackE (brackL s.data.toList) = Z := ⟨_, rfl⟩
  rw [hZ]
  have HZ := hid hZ
  clear hZ
  by_cases h91 : s.data.toList.head? = some 91
  · rw [h91] at Q1
    have Q1 : Hid (Calls _ _ _ _ fun e w' => e = .returned (.bool true) ∧ w' = w) := Q1
    go_enter Tryz.func186, Tryz.ntmps186
    go_wp2_with fail
    refine Q1.out.mono ?_
    rintro e w1 ⟨rfl, rfl⟩
    go_wp2
    have hk0 := World.iter_heap w1 s 0
    have hb2 : Below w1.heap.size w1 (w1.iter s 0) := (Below.refl _ _).alloc (Nat.le_refl _) _
    obtain ⟨kb, hkk⟩ : ∃ kb, w1.heap.size = kb := ⟨_, rfl⟩
    obtain ⟨w2, hww⟩ : ∃ w2, w1.iter s 0 = w2 := ⟨_, rfl⟩
    have hkb : w1.heap.size ≤ kb := by rw [hkk]; exact Nat.le_refl _
    rw [hkk] at hk0 ⊢
    rw [hww] at hk0 hb2 ⊢
    clear hkk hww Q1
    go_loopg [] s.size (fun gk wr => ∃ (pos : Nat), gk = s.size - pos ∧ wr.heap[kb]? = some (.stringIter s pos) ∧
        Below w1.heap.size w1 wr ∧ (pos < s.size → pos ≤ s.data.toList.findIdx (· == 93)) ∧ (¬ pos < s.size → s.data.toList.length ≤ s.data.toList.findIdx (· == 93)))
    case atStart => exact ⟨0, rfl, hk0, hb2, fun _ => Nat.zero_le _, fun h => by
      exfalso
      have : s.size = 0 := by omega
      rw [size0 s this] at h91
      cases h91⟩
    case round =>
      obtain ⟨pos, hgk, hk, hbel, hfi, hfe⟩ := hrel
      have HGK := hid hgk
      clear hgk hk0 hb2
      by_cases hp : pos < s.size
      · have hnx := fun ty => Lib.run_next_any_at (P := Tryz.prog) wr kb s pos ty hk hp
        have hw := decode_width s pos
        obtain ⟨c, hc⟩ : ∃ c, s.data.toList[pos]? = some c := ⟨_, List.getElem?_eq_getElem (by omega)⟩
        have hda := dec_ascii s pos c hc
        have hdh := dec_high s pos c hc
        have hfr := fi_runes (hfi hp) hc
        have hfp := hfi hp
        have hk2 := Lib.iterAt_heap wr kb s pos (pos + (Utf8.decode s pos).2) hk
        have hbel2 := Lib.below_iterAt hbel hkb s (pos + (Utf8.decode s pos).2)
        obtain ⟨rn, hrn⟩ : ∃ rn, (Utf8.decode s pos).1 = rn := ⟨_, rfl⟩
        rw [hrn] at hdh hnx
        have h93 : rn = 93 ↔ c.toNat = 93 := by
          by_cases h128 : c.toNat < 128
          · rw [← hrn, hda h128]
          · have := hdh h128; omega
        obtain ⟨p2, hp2⟩ : ∃ p2, pos + (Utf8.decode s pos).2 = p2 := ⟨_, rfl⟩
        rw [hp2] at hnx hk2 hbel2 hfr
        have HK := hid hk2
        clear hda hdh hk2 hk hbel hfi hfe
        by_cases hc93 : c.toNat = 93
        · have hi := fi_hit hfp hc (u8_eq (c := 93) hc93)
          have hrn93 := h93.2 hc93
          subst hrn93
          have hpos : 1 ≤ pos := by
            rcases Nat.eq_zero_or_pos pos with rfl | h
            · rw [List.head?_eq_getElem?] at h91
              rw [h91] at hc
              cases hc
              cases hc93
            · exact h
          have he : brackL s.data.toList = some ((s.data.toList.take pos).drop 1, s.data.toList.drop (pos + 1)) := by
            unfold brackL
            rw [hi, if_pos ⟨h91, by omega⟩]
          have hz : Z = .returned (.tuple #[.string (s.extract 1 pos), .string (s.extract (pos + 1) s.size)]) := by
            rw [ext_tx s 1 pos (by omega), ext_tx2 s (pos + 1), ← HZ.out, he]; rfl
          subst hz
          have i1 : (1 : Int) ≤ (pos : Int) := by omega
          have i2 : (pos : Int) ≤ (s.size : Int) := by omega
          have i3 : (pos : Int) + 1 ≤ (s.size : Int) := by omega
          clear he hi hfr h93 hrn hp2 hfp hc
          go_wp2
          go_quiet (fail)
          go_wp2
          go_ret2
          exact ⟨belowN hbel2 _, rfl⟩
        · have hrn93 : ¬ ((rn : Int) = 93) := by intro h; exact hc93 (h93.1 (by omega))
          have hfr := hfr hc93
          clear h93 hrn
          go_wp2
          go_roundg (s.size - p2)
          case measure => have := HGK.out; omega
          case rel => exact ⟨p2, rfl, HK.out, hbel2, fun _ => hfr, fun h => by omega⟩
      · have hnx := fun ty => Lib.run_next_end_at (P := Tryz.prog) wr kb s pos ty hk hp
        have he : brackL s.data.toList = none := if_neg fun h => by have := hfe hp; omega
        obtain rfl : gaveS = Z := by rw [← HZ.out, he]; rfl
        clear he hfe hfi
        go_wp2
        exact ⟨rfl, hbel, rfl⟩
  · have hb : (s.data.toList.head? == some 91) = false := by simpa using h91
    rw [hb] at Q1
    have he : brackL s.data.toList = none := if_neg fun h => h91 h.1
    obtain rfl : gaveS = Z := by rw [← HZ.out, he]; rfl
    go_enter Tryz.func186, Tryz.ntmps186
    go_wp2_with fail
    refine Q1.out.mono ?_
    rintro e w1 ⟨rfl, rfl⟩
    go_wp2
    exact ⟨rfl, Below.refl _ _, rfl⟩
end Go.Proofs.YtinmoligjcajmaaGreatDoor
/- The names that a session has: a map from texts to texts. -/
namespace Go.Proofs.YtinmoligjcajmaaGreatDoor
open Go.RowKit Go.Ev Go.Vl

abbrev NmA := List ((Tx × Tx) × Nat)
def entA (A : NmA) : List (AV × AV × Nat) := A.map fun x => (.str (tx x.1.1), .agg [.str (tx x.1.2)], x.2)
def fA (n : Tx) : NmA → Nat → Option (Nat × Tx)
  | [], _ => none
  | x :: A, i => if x.1.1 == n then some (i, x.1.2) else fA n A (i + 1)
def modA (n t : Tx) : NmA → Nat → NmA
  | [], _ => []
  | x :: A, 0 => ((n, t), x.2) :: A
  | x :: A, j + 1 => x :: modA n t A j
theorem tx_same (a b : Tx) : (tx a == tx b) = (a == b) := by
  show (a.toArray == b.toArray) = (a == b)
  simp
theorem find_ent (n : Tx) : ∀ (A : NmA) (i : Nat), eFind .string (.str (tx n)) (entA A) i = some ((fA n A i).map fun p => (p.1, .agg [.str (tx p.2)]))
  | [], _ => rfl
  | x :: A, i => by
    show (match eSame .string (.str (tx n)) (.str (tx x.1.1)) with
      | some true => some (some (i, AV.agg [.str (tx x.1.2)]))
      | some false => eFind .string (.str (tx n)) (entA A) (i + 1)
      | none => none) = _
    have h : eSame .string (.str (tx n)) (.str (tx x.1.1)) = some (x.1.1 == n) := by
      show some (tx n == tx x.1.1) = _
      rw [tx_same, Bool.beq_comm]
    rw [h]
    unfold fA
    cases hx : x.1.1 == n with
    | true => rfl
    | false => exact find_ent n A (i + 1)
theorem mod_ent (n t : Tx) : ∀ (A : NmA) (j : Nat), entA (modA n t A j) = modX (entA A) j (.str (tx n)) (.agg [.str (tx t)])
  | [], _ => rfl
  | x :: A, 0 => rfl
  | x :: A, j + 1 => congrArg _ (mod_ent n t A j)
def valA (A : NmA) (m : Tx) : Option Tx := (A.find? (fun x => x.1.1 == m)).map (·.1.2)
theorem val_fA (n : Tx) : ∀ (A : NmA) (i : Nat), (fA n A i).map (·.2) = valA A n
  | [], _ => rfl
  | x :: A, i => by
    unfold fA valA
    rw [List.find?_cons]
    cases hx : x.1.1 == n with
    | true => rfl
    | false => exact val_fA n A (i + 1)
theorem val_mod (n t m : Tx) : ∀ (A : NmA) (i j : Nat) (v : Tx), fA n A i = some (i + j, v) → valA (modA n t A j) m = if n == m then some t else valA A m
  | [], i, j, v, h => by cases h
  | x :: A, i, j, v, h => by
    unfold fA at h
    cases hx : x.1.1 == n with
    | true =>
      rw [hx] at h
      simp only [if_true, Option.some.injEq, Prod.mk.injEq] at h
      obtain rfl : j = 0 := by omega
      have hxn : x.1.1 = n := eq_of_beq hx
      unfold modA valA
      rw [List.find?_cons, List.find?_cons, hxn]
      dsimp only
      cases hm : n == m with
      | true => rfl
      | false => rfl
    | false =>
      rw [hx] at h
      simp only [Bool.false_eq_true, if_false] at h
      have hlt : ∀ (A : NmA) (i p : Nat) (v : Tx), fA n A i = some (p, v) → i ≤ p := by
        intro A
        induction A with
        | nil => intro i p v h; cases h
        | cons y A ih =>
          intro i p v h
          unfold fA at h
          split at h
          · simp only [Option.some.injEq, Prod.mk.injEq] at h; omega
          · have := ih _ _ _ h; omega
      have := hlt _ _ _ _ h
      obtain ⟨j', rfl⟩ : ∃ j', j = j' + 1 := ⟨j - 1, by omega⟩
      have ih := val_mod n t m A (i + 1) j' v (by rw [h]; congr 2; omega)
      unfold modA valA
      unfold valA at ih
      rw [List.find?_cons, List.find?_cons]
      cases hm : x.1.1 == m with
      | true =>
        dsimp only
        have : (n == m) = false := by
          rw [← eq_of_beq hm, Bool.beq_comm]; exact hx
        rw [this]
        rfl
      | false => exact ih
theorem val_push (n t m : Tx) (k : Nat) : ∀ (A : NmA) (i : Nat), fA n A i = none → valA (A ++ [((n, t), k)]) m = if n == m then some t else valA A m
  | [], i, h => by
    unfold valA
    rw [List.nil_append, List.find?_cons]
    dsimp only
    cases hm : n == m <;> rfl
  | x :: A, i, h => by
    unfold fA at h
    cases hx : x.1.1 == n with
    | true => rw [hx] at h; cases h
    | false =>
      rw [hx] at h
      have ih := val_push n t m k A (i + 1) h
      unfold valA at ih ⊢
      rw [List.cons_append, List.find?_cons, List.find?_cons]
      cases hm : x.1.1 == m with
      | true =>
        dsimp only
        have : (n == m) = false := by
          rw [← eq_of_beq hm, Bool.beq_comm]; exact hx
        rw [this]
        rfl
      | false => exact ih
def valL (L : Lets) (m : Tx) : Option Tx := (L.reverse.find? (fun x => x.1 == m)).map (·.2)
theorem valL_snoc (L : Lets) (n t m : Tx) : valL (L ++ [(n, t)]) m = if n == m then some t else valL L m := by
  unfold valL
  rw [List.reverse_append, List.reverse_singleton, List.singleton_append, List.find?_cons]
  dsimp only
  cases hm : n == m <;> rfl
theorem told_val (L : Lets) (m : Tx) : toldL L m = match valL L m with | some t => (t, true) | none => ([], false) := by
  unfold toldL valL
  cases L.reverse.find? (fun x => x.1 == m) <;> rfl

/-- the map at block b tells what the list of names tells -/
def NamesIs (w : World) (b : Nat) (L : Lets) : Prop :=
  ∃ (es : Array MapEntry) (cl : Nat) (A : NmA), w.heap[b]? = some (.map es cl) ∧ EsRel (fun _ => none) (entA A) es.toList ∧ ∀ m, valA A m = valL L m
theorem NamesIs.lt {w : World} {b : Nat} {L : Lets} (h : NamesIs w b L) : b < w.heap.size := by
  obtain ⟨es, cl, A, h1, _⟩ := h
  exact (Array.getElem?_eq_some_iff.1 h1).1
theorem NamesIs.keep {w w' : World} {b : Nat} {L : Lets} (h : NamesIs w b L) (hk : w'.heap[b]? = w.heap[b]?) : NamesIs w' b L := by
  obtain ⟨es, cl, A, h1, h2⟩ := h
  exact ⟨es, cl, A, hk.trans h1, h2⟩
theorem NamesIs.later {w w' : World} {b : Nat} {L : Lets} (h : NamesIs w b L) (hb : Below w.heap.size w w') : NamesIs w' b L := h.keep (hb.block b h.lt)
theorem names_new (w : World) : NamesIs (w.alloc (.map #[] 0)) w.heap.size [] := ⟨#[], 0, [], heap_alloc_new w _, .nil, fun _ => rfl⟩

theorem names_look {w : World} {b : Nat} {L : Lets} (h : NamesIs w b L) (n : Tx) :
    (Instr.lookup 114 (.map (some b)) (.string (tx n)) true).run Tryz.prog w = .ok (.tuple #[.agg #[.string (tx (toldL L n).1)], .bool (toldL L n).2]) w := by
  obtain ⟨es, cl, A, h1, h2, h3⟩ := h
  have hck := run_checkKey (P := Tryz.prog) (w := w) czOk (t := 9) (d := .string) rfl rfl es.isEmpty 9999 (.string (tx n))
  obtain ⟨r', q1, q2⟩ := run_findKey (P := Tryz.prog) (w := w) czOk (t := 9) (d := .string) rfl (.str (tx n)) h2 (find_ent n A 0)
  rw [run_lookup (run_und czOk (t := 114) rfl w) (.inr ⟨b, cl, rfl, h1⟩) hck q1, told_val, ← h3 n, ← val_fA n A 0]
  generalize fA n A 0 = F at *
  cases F with
  | none =>
    cases q2
    have hz : (zeroValue 240).run Tryz.prog w = .ok (.agg #[.string ⟨#[]⟩]) w := by kernel_rfl
    simp only [hz, Result.andThen, if_true]
    rfl
  | some p =>
    cases q2 with
    | some q2 =>
      cases q2 with
      | agg q2 =>
        cases q2 with
        | cons a q2 =>
          cases a
          cases q2
          rfl

theorem names_put {w : World} {b : Nat} {L : Lets} (h : NamesIs w b L) (n t : Tx) :
    ∃ w', (Instr.mapUpdate 114 (.map (some b)) (.string (tx n)) (.agg #[.string (tx t)])).run Tryz.prog w = .ok () w' ∧ NamesIs w' b (L ++ [(n, t)]) ∧ w.grownBy w' (some b) := by
  have hlt := h.lt
  obtain ⟨es, cl, A, h1, h2, h3⟩ := h
  have hck := run_checkKey (P := Tryz.prog) (w := w) czOk (t := 9) (d := .string) rfl rfl false 9999 (.string (tx n))
  obtain ⟨r', q1, q2⟩ := run_findKey (P := Tryz.prog) (w := w) czOk (t := 9) (d := .string) rfl (.str (tx n)) h2 (find_ent n A 0)
  have hv : VRel (fun _ => none) (.agg [.str (tx t)]) (.agg #[.string (tx t)]) := .agg (vs := [.string (tx t)]) (.cons (.str _) .nil)
  have hgr : ∀ o : Obj, w.grownBy { w with heap := w.heap.setIfInBounds b o } (some b) := fun o => ⟨rfl, rfl, rfl, by simp, fun i hi hne => by
    show (w.heap.setIfInBounds b o)[i]? = w.heap[i]?
    rw [Array.getElem?_setIfInBounds_ne (fun e => hne (by rw [e]))]⟩
  cases hF : fA n A 0 with
  | some p =>
    obtain ⟨j, v⟩ := p
    have hfe : eFind .string (.str (tx n)) (entA A) 0 = some (some (j, .agg [.str (tx v)])) := by rw [find_ent, hF]; rfl
    obtain ⟨_, e0, g1, g2⟩ := eFind_same (φ := fun _ => none) (.str (tx n)) h2 hfe
    rw [hF] at q2
    cases q2 with
    | some q2 =>
      refine ⟨{ w with heap := w.heap.setIfInBounds b (.map (es.modify j fun e => { e with key := .string (tx n), val := .agg #[.string (tx t)] }) cl) }, ?_, ⟨es.modify j fun e => { e with key := .string (tx n), val := .agg #[.string (tx t)] }, cl, modA n t A j, by simp [hlt], ?_, fun m => ?_⟩, hgr _⟩
      · have g1' : es[j]? = some e0 := by rw [← Array.getElem?_toList]; simpa using g1
        simp [Instr.mapUpdate, run_und czOk (t := 114) (d := .map 9 240) rfl w, getObj, setObj, Sem.run, h1, hck, q1, g1', Instr.keyThatStays, g2 10000, Result.andThen]
      · rw [Array.toList_modify, mod_ent]; exact h2.modify (.str _) hv j
      · rw [val_mod n t m A 0 j v (by rw [hF, Nat.zero_add]), valL_snoc, h3 m]
  | none =>
    rw [hF] at q2
    cases q2 with
    | none =>
      refine ⟨{ w with heap := w.heap.setIfInBounds b (.map (es.push { key := .string (tx n), val := .agg #[.string (tx t)], born := cl }) (cl + 1)) }, ?_, ⟨es.push { key := .string (tx n), val := .agg #[.string (tx t)], born := cl }, cl + 1, A ++ [((n, t), cl)], by simp [hlt], ?_, fun m => ?_⟩, hgr _⟩
      · simp [Instr.mapUpdate, run_und czOk (t := 114) (d := .map 9 240) rfl w, getObj, setObj, Sem.run, h1, hck, q1, Result.andThen]
      · rw [Array.toList_push]
        have : entA (A ++ [((n, t), cl)]) = entA A ++ [(.str (tx n), .agg [.str (tx t)], cl)] := by simp [entA]
        rw [this]
        exact h2.push (.str _) hv
      · rw [val_push n t m cl A 0 hF, valL_snoc, h3 m]

section
variable (w : World) {ops : Array Oper} {rest : List Oper} {o : Oper} {a : Act} {Q : Exit → Act → World → Prop}
theorem wpl_look (hg : o.guard = none) (m x : Operand) (hop : o.op = Op.lookup 114 m x true) (b : Nat) (L : Lets) (n : Tx)
    (hm : a.eval m = .map (some b)) (h : NamesIs w b L) (hx : a.eval x = .string (tx n))
    (hK : wpList Tryz.prog ops Q rest (a.put o.dst (.tuple #[.agg #[.string (tx (toldL L n).1)], .bool (toldL L n).2])) w) :
    wpList Tryz.prog ops Q (o :: rest) a w := by
  refine wpList_plain hg fun K' hK' => ?_
  unfold Oper.wp
  simp [execOp, hop, hm, hx, names_look h n, Result.andThen]
  exact hK' _ _ hK
theorem wpl_put (hg : o.guard = none) (m x v : Operand) (hop : o.op = Op.mapUpdate 114 m x v) (b : Nat) (L : Lets) (n t : Tx)
    (hm : a.eval m = .map (some b)) (h : NamesIs w b L) (hx : a.eval x = .string (tx n)) (hv : a.eval v = .agg #[.string (tx t)])
    (hK : ∀ w', NamesIs w' b (L ++ [(n, t)]) → w.grownBy w' (some b) → wpList Tryz.prog ops Q rest (a.put o.dst undef) w') :
    wpList Tryz.prog ops Q (o :: rest) a w := by
  refine wpList_plain hg fun K' hK' => ?_
  obtain ⟨w', hrun, r1, r2⟩ := names_put h n t
  unfold Oper.wp
  simp [execOp, hop, hm, hx, hv, hrun, Result.andThen]
  exact hK' _ _ (hK w' r1 r2)
end
end Go.Proofs.YtinmoligjcajmaaGreatDoor
/- (*player).texts. -/
namespace Go.Proofs.YtinmoligjcajmaaGreatDoor
open Go.RowKit Go.Vl

theorem index_one (c : UInt8) (l : Tx) : Lib.index l [c] = if l.findIdx (· == c) < l.length then ((l.findIdx (· == c) : Nat) : Int) else -1 := by
  induction l with
  | nil => rfl
  | cons a l ih =>
    unfold Lib.index
    rw [List.findIdx_cons]
    have hp : List.isPrefixOf [c] (a :: l) = (a == c) := by
      simp only [List.isPrefixOf, Bool.and_true]
      exact Bool.beq_comm
    rw [hp, ih]
    cases h : a == c with
    | true => simp
    | false =>
      simp only [Bool.false_eq_true, if_false, cond_false, List.length_cons]
      by_cases h2 : l.findIdx (· == c) < l.length
      · have e1 : (((l.findIdx (· == c) : Nat) : Int) == -1) = false := by simp
        simp only [if_pos h2, e1, Bool.false_eq_true, if_false]
        rw [if_pos (by omega)]
        omega
      · simp only [if_neg h2]
        rw [if_pos (by decide), if_neg (by omega)]
theorem cut_one (l : Tx) : Lib.cut l [32] = cutL l := by
  unfold Lib.cut cutL
  rw [index_one]
  by_cases h : l.findIdx (· == 32) < l.length
  · rw [if_pos h, if_pos h, if_pos (by omega)]
    rfl
  · rw [if_neg h, if_neg h, if_neg (by decide)]
theorem cut_any (s : ByteArray) (m : Int) (w : World) (hs : s.size < 4294967281) (hm : w.cell? ⟨1, 0, none⟩ = some (.int .i64 m)) :
    Calls Tryz.prog 94 #[.string s, .string ⟨#[32]⟩] w fun e w' => e = .returned (.tuple #[.string (tx (cutL s.data.toList).1), .string (tx (cutL s.data.toList).2.1), .bool (cutL s.data.toList).2.2]) ∧ Below w.heap.size w w' := by
  refine (Tryz.strings_Cut s ⟨#[32]⟩ m w hs hm).mono ?_
  rintro e w' ⟨rfl, n, rfl⟩
  have h : Lib.cut s.data.toList (⟨#[32]⟩ : ByteArray).data.toList = cutL s.data.toList := cut_one _
  rw [h]
  exact ⟨rfl, belowN (Below.refl _ _) n⟩

theorem elemStrS : Elem Tryz.prog 56 9 (.string ⟨#[]⟩) 1 16 :=
  ⟨Tryz.underlying56, by kernel_rfl, rfl, by decide⟩

/-- what texts says, of what the line names -/
def TextsSay (T : Option (List Tx)) (least most : Int) (e : Ending) : Prop :=
  (∃ l, T = some l ∧ least ≤ (l.length : Int) ∧ (l.length : Int) ≤ most ∧ ∃ v, e = .returned v) ∨ ((∀ l, T = some l → ¬ (least ≤ (l.length : Int) ∧ (l.length : Int) ≤ most)) ∧ e = gaveS)
def Named (L : Lets) : Prop := ∀ x ∈ L, x.1 ≠ []
theorem told_nil (L : Lets) (h : Named L) : toldL L [] = ([], false) := by
  unfold toldL
  have : L.reverse.find? (fun x => x.1 == []) = none := by
    rw [List.find?_eq_none]
    intro x hx hb
    exact h x (List.mem_reverse.1 hx) (eq_of_beq hb)
  rw [this]

theorem catR (rs : Tx) : (({ data := #[32] } : ByteArray) ++ tx rs).data.toList = 32 :: rs := by simp [tx]
theorem nf_end {F : Tx → List Tx → Option (List Tx)} {o : List Tx} (u : ByteArray) (h : u.toList.isEmpty = true) : nextF F u.data.toList o = some o := by
  rw [ByteArray.toList_eq] at h
  cases hl : u.data.toList with
  | nil => rfl
  | cons a l => rw [hl] at h; cases h
theorem sp_head (u : ByteArray) (h : 0 < u.size) : ∃ l, u.data.toList = u[0] :: l := by
  rcases u with ⟨⟨l⟩⟩
  cases l with
  | nil => exact absurd h (Nat.lt_irrefl 0)
  | cons a l => exact ⟨l, rfl⟩
theorem nf_no {F : Tx → List Tx → Option (List Tx)} {o : List Tx} (u : ByteArray) (h : 0 < u.size) (h2 : (((u[0].toNat : Nat) : Int) != 32) = true) : nextF F u.data.toList o = none := by
  obtain ⟨l, hl⟩ := sp_head u h
  rw [hl]
  simp only [bne_iff_ne, ne_eq] at h2
  show (if u[0].toNat = 32 then F l o else none) = none
  rw [if_neg (by omega)]
theorem ext_tail (u : ByteArray) (h : 0 < u.size) : (u.extract 1 u.size).data.toList = u.data.toList.drop 1 := by
  rw [ext_tx2]
theorem nf_go {F : Tx → List Tx → Option (List Tx)} {o : List Tx} (u : ByteArray) (h : 0 < u.size) (h2 : (((u[0].toNat : Nat) : Int) != 32) = false) : nextF F u.data.toList o = F (u.extract 1 u.size).data.toList o := by
  rw [ext_tail u h]
  obtain ⟨l, hl⟩ := sp_head u h
  rw [hl]
  simp only [bne_eq_false_iff_eq] at h2
  show (if u[0].toNat = 32 then F l o else none) = F l o
  rw [if_pos (by omega)]
theorem ext_len (u : ByteArray) (h : 0 < u.size) : (u.extract 1 u.size).data.toList.length + 1 = u.data.toList.length := by
  rw [ext_tail u h, List.length_drop]
  have := size_len u
  omega
theorem matF_br (L : Lets) (n : Nat) (l : Tx) (out : List Tx) (tt r2 : Tx) (hd : l.head? = some 91) (hk : brackL l = some (tt, r2)) : matF L (n + 1) l out = nextF (matF L n) r2 (out ++ [tt]) ∧ r2.length + 1 ≤ l.length := by
  unfold brackL at hk
  cases l with
  | nil => cases hd
  | cons c r =>
    obtain rfl : c = 91 := by simpa using hd
    split at hk
    · rename_i h
      simp only [Option.some.injEq, Prod.mk.injEq] at hk
      obtain ⟨rfl, rfl⟩ := hk
      refine ⟨?_, by rw [List.length_drop]; omega⟩
      unfold matF
      rw [if_pos (show UInt8.toNat 91 = 91 from rfl), if_neg (by omega)]
    · cases hk
theorem matF_br0 (L : Lets) (n : Nat) (l : Tx) (out : List Tx) (hd : l.head? = some 91) (hk : brackL l = none) : matF L (n + 1) l out = none := by
  unfold brackL at hk
  cases l with
  | nil => cases hd
  | cons c r =>
    obtain rfl : c = 91 := by simpa using hd
    split at hk
    · cases hk
    · rename_i h
      have h2 : ¬ ((91 : UInt8) :: r).findIdx (· == 93) < ((91 : UInt8) :: r).length := fun e => h ⟨hd, e⟩
      have h3 := List.findIdx_le_length (xs := (91 : UInt8) :: r) (p := (· == 93))
      unfold matF
      rw [if_pos (show UInt8.toNat 91 = 91 from rfl), if_pos (by omega)]
theorem cut_take (l : Tx) : (cutL l).1 = l.take (l.findIdx (· == 32)) := by
  unfold cutL
  split
  · rfl
  · rename_i h
    show l = _
    exact (List.take_of_length_le (by omega)).symm
theorem matF_wd (L : Lets) (n : Nat) (l : Tx) (out : List Tx) (hne : l ≠ []) (hd : (l.head? == some 91) = false) : matF L (n + 1) l out = if (toldL L (cutL l).1).2 = true then nextF (matF L n) (l.drop (l.findIdx (· == 32))) (out ++ [(toldL L (cutL l).1).1]) else none := by
  rw [cut_take]
  cases l with
  | nil => exact absurd rfl hne
  | cons c r =>
    have h91 : ¬ c.toNat = 91 := by
      intro h
      rw [show c = 91 from UInt8.toNat_inj.1 h] at hd
      cases hd
    unfold matF
    rw [if_neg h91]
theorem cut_rest (l : Tx) : (cutL l).2.2 = true → l.drop (l.findIdx (· == 32)) = 32 :: (cutL l).2.1 := by
  unfold cutL
  split
  · rename_i h
    intro _
    have hx : l[l.findIdx (· == 32)]? = some l[l.findIdx (· == 32)] := List.getElem?_eq_getElem h
    have hp : (l[l.findIdx (· == 32)] == 32) = true := List.findIdx_getElem (w := h)
    rw [drop_cons1 _ _ _ hx, eq_of_beq hp]
  · intro h; cases h
theorem cut_rest0 (l : Tx) : (cutL l).2.2 = false → l.drop (l.findIdx (· == 32)) = [] ∧ (cutL l).2.1 = [] := by
  unfold cutL
  split
  · intro h; cases h
  · rename_i h
    intro _
    exact ⟨List.drop_eq_nil_of_le (by omega), rfl⟩

set_option maxHeartbeats 6400000 in
set_option maxRecDepth 100000 in
theorem texts_any (p b : Nat) (s : ByteArray) (least most : Int) (L : Lets) (m : Int) (w : World) (hs : s.size ≤ 1048576) (hp : w.cell? ⟨p, 0, none⟩ = some (.map (some b))) (hpl : p < w.heap.size) (hn : NamesIs w b L) (hL : Named L) (hm : w.cell? ⟨1, 0, none⟩ = some (.int .i64 m)) (h1 : 1 < w.heap.size) :
    Calls Tryz.prog 229 #[.pointer (some ⟨p, 0, none⟩), .string s, .int .i64 least, .int .i64 most] w fun e w' => Below w.heap.size w w' ∧ TextsSay (matsL L s.data.toList) least most e := by
  have hsl := size_len s
  obtain ⟨T, hT⟩ : ∃ T, matsL L s.data.toList = T := ⟨_, rfl⟩
  have hTu := hT
  unfold matsL at hTu
  rw [hT]
  have HT := hid hTu
  clear hT hTu
  go_enter Tryz.func229, Tryz.ntmps229
  go_wp2
  have ho : w.ownsRow w.heap.size 9 1 (.slice none 0 0) 0 [] := World.ownsRow_nil _ _ _ _
  have hb0 := Below.refl w.heap.size w
  go_loopg [1, 9] (s.size + 1) (fun gk v1 v9 wr => ∃ (u : ByteArray) (n : Nat) (out : List Tx) (xs : List Value), gk = n ∧ v1 = .string u ∧ u.data.toList.length + 1 ≤ n ∧ out.length + u.data.toList.length ≤ s.size ∧
    wr.ownsRow w.heap.size 9 1 v9 out.length xs ∧ Below w.heap.size w wr ∧ matF L n u.data.toList out = T)
  case atStart => exact ⟨s, s.data.toList.length + 1, [], [], by omega, rfl, Nat.le_refl _, by simp, ho, hb0, HT.out⟩
  case round =>
    obtain ⟨u, n, out, xs, rfl, rfl, hun, huo, how, hbel, hTT⟩ := hrel
    have hul := size_len u
    have QH := hid fun w => Tryz.strings_HasPrefix u ⟨#[91]⟩ w
    have hh : Lib.hasPrefix u.data.toList (⟨#[91]⟩ : ByteArray).data.toList = (u.data.toList.head? == some 91) := hp_head u 91
    rw [hh] at QH
    clear hh
    have HOW := hid how
    have HTT := hid hTT
    have hn2 := hn.later hbel
    have hp2 : wr.cell? ⟨p, 0, none⟩ = some (.map (some b)) := cellB hbel hp (Nat.le_refl _)
    have hm2 : wr.cell? ⟨1, 0, none⟩ = some (.int .i64 m) := cellB hbel hm (Nat.le_refl _)
    clear how hTT ho hb0 HT
    obtain ⟨n, hgn⟩ : ∃ k, gk = k + 1 := ⟨gk - 1, by omega⟩
    rw [hgn] at HTT
    cases hd : (u.data.toList.head? == some 91) with
    | true =>
      have hd1 : u.data.toList.head? = some 91 := by simpa using hd
      rw [hd] at QH
      have QB := hid fun w => bracket_any u w (by omega)
      cases hk : brackL u.data.toList with
      | none =>
        rw [hk] at QB
        have hTn : T = none := by rw [← HTT.out]; exact matF_br0 L n _ out hd1 hk
        subst hTn
        go_wp2_with fail
        refine (QH.out _).mono ?_
        rintro e w1 ⟨rfl, rfl⟩
        go_wp2_with fail
        refine (QB.out _).mono ?_
        rintro e w2 ⟨hb2, he⟩
        unfold brackE gaveS at he
        subst he
        have hbel2 := hbel.trans (hb2.mono hbel.size)
        clear QB QH hd
        go_wp2
        exact ⟨rfl, hbel2, .inr ⟨fun l h => (by cases h), rfl⟩⟩
      | some x =>
        obtain ⟨tt, r2⟩ := x
        rw [hk] at QB
        obtain ⟨hX, hlen2⟩ := matF_br L n _ out tt r2 hd1 hk
        rw [HTT.out] at hX
        have HX0 := hid hX.symm
        clear hX
        go_wp2_with fail
        refine (QH.out _).mono ?_
        rintro e w1 ⟨rfl, rfl⟩
        go_wp2_with fail
        refine (QB.out _).mono ?_
        rintro e w2 ⟨hb2, he⟩
        unfold brackE at he
        dsimp only at he
        subst he
        have hbel2 := hbel.trans (hb2.mono hbel.size)
        have how2 := ownLater HOW.out hb2
        obtain ⟨u2, hu2⟩ : ∃ u2, tx r2 = u2 := ⟨_, rfl⟩
        have hu2l : u2.data.toList = r2 := by rw [← hu2]
        rw [hu2]
        have hX := HX0.out
        clear HX0
        rw [← hu2l] at hX hlen2
        obtain ⟨t0, ht0⟩ : ∃ t0, tx tt = t0 := ⟨_, rfl⟩
        rw [ht0]
        clear QB QH hd hu2 hu2l HTT ht0 hk
        have HX := hid hX
        clear hX
        go_wp2_with (at_builtin; go_loud (refine wpl_append1 elemStrS rfl _ _ rfl w.heap.size out.length 1 1 _ xs #[.string t0] how2 rfl rfl rfl (by simp [Value.oneCell']) (by omega) (by decide) (by unfold maxLen; omega) hbel2 (hbel2).size ?_))
        intro g6 c6 w6 ho6 hb6 hg6
        clear hg6
        go_wp2
        all_goals first
          | (have hE : u2.toList.isEmpty = true := by assumption
             have hT9 := HX.out
             rw [nf_end u2 hE] at hT9
             subst hT9
             first
             | (go_ret
                exact ⟨hb6, .inl ⟨_, rfl, by simp only [List.length_append, List.length_cons, List.length_nil]; omega, by simp only [List.length_append, List.length_cons, List.length_nil]; omega, _, rfl⟩⟩)
             | exact ⟨rfl, hb6, .inr ⟨fun l h => (by cases h; simp only [List.length_append, List.length_cons, List.length_nil]; omega), rfl⟩⟩)
          | (have hP : 0 < u2.size := by assumption
             have h9 : (((u2[0].toNat : Nat) : Int) != 32) = true := by assumption
             have hT9 := HX.out
             rw [nf_no u2 hP h9] at hT9
             subst hT9
             exact ⟨rfl, hb6, .inr ⟨fun l h => (by cases h), rfl⟩⟩)
          | (have hP : 0 < u2.size := by assumption
             have h9 : (((u2[0].toNat : Nat) : Int) != 32) = false := by assumption
             have hT9 := HX.out
             rw [nf_go u2 hP h9] at hT9
             have hl9 := ext_len u2 hP
             go_roundg n
             case measure => omega
             case rel => exact ⟨u2.extract 1 u2.size, n, out ++ [tt], _, rfl, rfl, by omega, by simp only [List.length_append, List.length_cons, List.length_nil]; omega, by rw [List.length_append]; exact ho6, hb6, hT9⟩)
          | (exfalso
             have h7 : u2.toList.isEmpty = false := by assumption
             have h8 : ¬ 0 < u2.size := by assumption
             rw [nil_of u2 h8] at h7
             cases h7)
    | false =>
      rw [hd] at QH
      have QC := hid fun w => cut_any u m w (by omega)
      have hT1 : T = if (toldL L (cutL u.data.toList).1).2 = true then nextF (matF L n) (u.data.toList.drop (u.data.toList.findIdx (· == 32))) (out ++ [(toldL L (cutL u.data.toList).1).1]) else none := by
        rw [← HTT.out]
        by_cases hne : u.data.toList = []
        · rw [hne]
          have : (toldL L (cutL []).1).2 = false := by
            show (toldL L []).2 = false
            rw [told_nil L hL]
          rw [if_neg (by rw [this]; decide)]
          cases n <;> rfl
        · exact matF_wd L n _ out hne hd
      have hcr := cut_rest u.data.toList
      have hcr0 := cut_rest0 u.data.toList
      have hdl : (u.data.toList.drop (u.data.toList.findIdx (· == 32))).length ≤ u.data.toList.length := by rw [List.length_drop]; omega
      generalize u.data.toList.drop (u.data.toList.findIdx (· == 32)) = rest at hT1 hcr hcr0 hdl
      generalize cutL u.data.toList = C at *
      obtain ⟨wd, rs, more⟩ := C
      dsimp only at hT1 hcr hcr0 QC
      have QT : toldL L wd = toldL L wd := rfl
      generalize hTD : toldL L wd = TD at hT1 QT
      obtain ⟨tt, fnd⟩ := TD
      dsimp only at hT1
      have HTD := hid hTD
      obtain ⟨t0, ht0⟩ : ∃ t0, tx tt = t0 := ⟨_, rfl⟩
      have HT0 := hid ht0
      clear QT hTD
      cases fnd with
      | false =>
        rw [if_neg (by decide)] at hT1
        subst hT1
        clear HTT
        go_wp2_with fail
        refine (QH.out _).mono ?_
        rintro e w1 ⟨rfl, rfl⟩
        go_wp2_with fail
        refine (QC.out _ hm2).mono ?_
        rintro e w2 ⟨rfl, hb2⟩
        have hbel2 := hbel.trans (hb2.mono hbel.size)
        have hn3 := hn.later hbel2
        have hp3 : w2.cell? ⟨p, 0, none⟩ = some (.map (some b)) := cellB hbel2 hp (Nat.le_refl _)
        clear QH QC hd
        go_wp2_with (at_lookup; refine wpl_look _ rfl _ _ rfl b L wd rfl hn3 rfl ?_; rw [HTD.out])
        exact ⟨rfl, hbel2.alloc hbel2.size _, .inr ⟨fun l h => (by cases h), rfl⟩⟩
      | true =>
        rw [if_pos rfl] at hT1
        have HX0 := hid hT1.symm
        clear hT1
        cases more with
        | true =>
          have hr1 := hcr rfl
          subst hr1
          simp only [List.length_cons] at hdl
          have hrl : ¬ 9223372036854775807 < 1 + rs.length := by omega
          clear hcr hcr0 HTT
          go_wp2_with fail
          refine (QH.out _).mono ?_
          rintro e w1 ⟨rfl, rfl⟩
          go_wp2_with fail
          refine (QC.out _ hm2).mono ?_
          rintro e w2 ⟨rfl, hb2⟩
          have hbel2 := hbel.trans (hb2.mono hbel.size)
          have hn3 := hn.later hbel2
          have hp3 : w2.cell? ⟨p, 0, none⟩ = some (.map (some b)) := cellB hbel2 hp (Nat.le_refl _)
          obtain ⟨W, hW⟩ : ∃ W, w2.alloc (.cells #[.string t0] 240) = W := ⟨_, rfl⟩
          have how2 : W.ownsRow w.heap.size 9 1 u9 out.length xs := by rw [← hW]; exact (ownLater HOW.out hb2).alloc _
          have hbelW : Below w.heap.size w W := by rw [← hW]; exact hbel2.alloc hbel2.size _
          have hc0 : W.cell? ⟨w2.heap.size, 0, none⟩ = some (.string t0) := by rw [← hW]; exact (BoxIs.one (BoxIs.new _ _ _)).1
          have hX := HX0.out
          clear QH QC hd HX0
          go_wp2_with (first | (at_lookup; refine wpl_look _ rfl _ _ rfl b L wd rfl hn3 rfl ?_; rw [HTD.out]; dsimp only; rw [HT0.out]) | (at_builtin; go_loud (refine wpl_append1 elemStrS rfl _ _ rfl w.heap.size out.length 1 1 _ xs #[.string t0] how2 rfl rfl rfl (by simp [Value.oneCell']) (by omega) (by decide) (by unfold maxLen; omega) hbelW (hbelW).size ?_)))
          intro g6 c6 w6 ho6 hb6 hg6
          clear hg6
          generalize hu2 : ({ data := #[32] } : ByteArray) ++ tx rs = u2
          have hu2l : u2.data.toList = (32 :: rs) := by rw [← hu2]; exact catR rs
          rw [← hu2l] at hX
          have hlen2 : u2.data.toList.length ≤ u.data.toList.length := by rw [hu2l]; exact hdl
          have HX := hid hX
          clear hX hu2 hu2l
          go_wp2
          all_goals first
            | (have hE : u2.toList.isEmpty = true := by assumption
               have hT9 := HX.out
               rw [nf_end u2 hE] at hT9
               subst hT9
               first
               | (go_ret
                  exact ⟨hb6, .inl ⟨_, rfl, by simp only [List.length_append, List.length_cons, List.length_nil]; omega, by simp only [List.length_append, List.length_cons, List.length_nil]; omega, _, rfl⟩⟩)
               | exact ⟨rfl, hb6, .inr ⟨fun l h => (by cases h; simp only [List.length_append, List.length_cons, List.length_nil]; omega), rfl⟩⟩)
            | (have hP : 0 < u2.size := by assumption
               have h9 : (((u2[0].toNat : Nat) : Int) != 32) = true := by assumption
               have hT9 := HX.out
               rw [nf_no u2 hP h9] at hT9
               subst hT9
               exact ⟨rfl, hb6, .inr ⟨fun l h => (by cases h), rfl⟩⟩)
            | (have hP : 0 < u2.size := by assumption
               have h9 : (((u2[0].toNat : Nat) : Int) != 32) = false := by assumption
               have hT9 := HX.out
               rw [nf_go u2 hP h9] at hT9
               have hl9 := ext_len u2 hP
               go_roundg n
               case measure => omega
               case rel => exact ⟨u2.extract 1 u2.size, n, out ++ [tt], _, rfl, rfl, by omega, by simp only [List.length_append, List.length_cons, List.length_nil]; omega, by rw [List.length_append]; exact ho6, hb6, hT9⟩)
            | (exfalso
               have h7 : u2.toList.isEmpty = false := by assumption
               have h8 : ¬ 0 < u2.size := by assumption
               rw [nil_of u2 h8] at h7
               cases h7)
        | false =>
          obtain ⟨rfl, rfl⟩ := hcr0 rfl
          clear hcr hcr0 HTT
          go_wp2_with fail
          refine (QH.out _).mono ?_
          rintro e w1 ⟨rfl, rfl⟩
          go_wp2_with fail
          refine (QC.out _ hm2).mono ?_
          rintro e w2 ⟨rfl, hb2⟩
          have hbel2 := hbel.trans (hb2.mono hbel.size)
          have hn3 := hn.later hbel2
          have hp3 : w2.cell? ⟨p, 0, none⟩ = some (.map (some b)) := cellB hbel2 hp (Nat.le_refl _)
          obtain ⟨W, hW⟩ : ∃ W, w2.alloc (.cells #[.string t0] 240) = W := ⟨_, rfl⟩
          have how2 : W.ownsRow w.heap.size 9 1 u9 out.length xs := by rw [← hW]; exact (ownLater HOW.out hb2).alloc _
          have hbelW : Below w.heap.size w W := by rw [← hW]; exact hbel2.alloc hbel2.size _
          have hc0 : W.cell? ⟨w2.heap.size, 0, none⟩ = some (.string t0) := by rw [← hW]; exact (BoxIs.one (BoxIs.new _ _ _)).1
          have hX := HX0.out
          clear QH QC hd HX0
          go_wp2_with (first | (at_lookup; refine wpl_look _ rfl _ _ rfl b L wd rfl hn3 rfl ?_; rw [HTD.out]; dsimp only; rw [HT0.out]) | (at_builtin; go_loud (refine wpl_append1 elemStrS rfl _ _ rfl w.heap.size out.length 1 1 _ xs #[.string t0] how2 rfl rfl rfl (by simp [Value.oneCell']) (by omega) (by decide) (by unfold maxLen; omega) hbelW (hbelW).size ?_)))
          intro g6 c6 w6 ho6 hb6 hg6
          clear hg6
          generalize hu2 : (tx []) = u2
          have hu2l : u2.data.toList = ([] : Tx) := by rw [← hu2]
          rw [← hu2l] at hX
          have hlen2 : u2.data.toList.length ≤ u.data.toList.length := by rw [hu2l]; first | exact Nat.zero_le _ | skip
          have HX := hid hX
          clear hX hu2 hu2l
          go_wp2
          all_goals first
            | (have hE : u2.toList.isEmpty = true := by assumption
               have hT9 := HX.out
               rw [nf_end u2 hE] at hT9
               subst hT9
               first
               | (go_ret
                  exact ⟨hb6, .inl ⟨_, rfl, by simp only [List.length_append, List.length_cons, List.length_nil]; omega, by simp only [List.length_append, List.length_cons, List.length_nil]; omega, _, rfl⟩⟩)
               | exact ⟨rfl, hb6, .inr ⟨fun l h => (by cases h; simp only [List.length_append, List.length_cons, List.length_nil]; omega), rfl⟩⟩)
            | (have hP : 0 < u2.size := by assumption
               have h9 : (((u2[0].toNat : Nat) : Int) != 32) = true := by assumption
               have hT9 := HX.out
               rw [nf_no u2 hP h9] at hT9
               subst hT9
               exact ⟨rfl, hb6, .inr ⟨fun l h => (by cases h), rfl⟩⟩)
            | (have hP : 0 < u2.size := by assumption
               have h9 : (((u2[0].toNat : Nat) : Int) != 32) = false := by assumption
               have hT9 := HX.out
               rw [nf_go u2 hP h9] at hT9
               have hl9 := ext_len u2 hP
               go_roundg n
               case measure => omega
               case rel => exact ⟨u2.extract 1 u2.size, n, out ++ [tt], _, rfl, rfl, by omega, by simp only [List.length_append, List.length_cons, List.length_nil]; omega, by rw [List.length_append]; exact ho6, hb6, hT9⟩)
            | (exfalso
               have h7 : u2.toList.isEmpty = false := by assumption
               have h8 : ¬ 0 < u2.size := by assumption
               rw [nil_of u2 h8] at h7
               cases h7)
end Go.Proofs.YtinmoligjcajmaaGreatDoor
/- (*player).mats where lines are looked at alone; the words that ask for matrices. -/
namespace Go.Proofs.YtinmoligjcajmaaGreatDoor
open Go.RowKit Go.Vl

/-- a line that is looked at: it goes through, or it is given up -/
def LookSay (T : Option (List Tx)) (least most : Int) (v : Value) (e : Ending) : Prop :=
  (∃ l, T = some l ∧ least ≤ (l.length : Int) ∧ (l.length : Int) ≤ most ∧ e = .returned v) ∨ ((∀ l, T = some l → ¬ (least ≤ (l.length : Int) ∧ (l.length : Int) ≤ most)) ∧ e = gaveS)
/-- a player that looks at lines alone: its names, and where MaxLen stands -/
structure Looks (w : World) (p b : Nat) (L : Lets) (m : Int) : Prop where
  names : w.cell? ⟨p, 0, none⟩ = some (.map (some b))
  look : w.cell? ⟨p, 1, none⟩ = some (.bool true)
  lt : p < w.heap.size
  is : NamesIs w b L
  named : Named L
  max : w.cell? ⟨1, 0, none⟩ = some (.int .i64 m)
  one : 1 < w.heap.size
theorem Looks.later {w w' : World} {p b : Nat} {L : Lets} {m : Int} (h : Looks w p b L m) (hb : Below w.heap.size w w') : Looks w' p b L m :=
  ⟨cellB hb h.names (Nat.le_refl _), cellB hb h.look (Nat.le_refl _), Nat.lt_of_lt_of_le h.lt hb.size, h.is.later hb, h.named, cellB hb h.max (Nat.le_refl _), Nat.lt_of_lt_of_le h.one hb.size⟩

set_option maxHeartbeats 3200000 in
set_option maxRecDepth 100000 in
theorem mats_any (p b : Nat) (s : ByteArray) (least most : Int) (L : Lets) (m : Int) (w : World) (hs : s.size ≤ 1048576) (h : Looks w p b L m) :
    Calls Tryz.prog 187 #[.pointer (some ⟨p, 0, none⟩), .string s, .int .i64 least, .int .i64 most] w fun e w' => Below w.heap.size w w' ∧ LookSay (matsL L s.data.toList) least most (.tuple #[.slice none 0 0, .bool false]) e := by
  have Q1 := hid (texts_any p b s least most L m w hs h.names h.lt h.is h.named h.max h.one)
  generalize matsL L s.data.toList = T at *
  go_enter Tryz.func187, Tryz.ntmps187
  go_wp2_with fail
  refine Q1.out.mono ?_
  rintro e w1 ⟨hb1, hq⟩
  have hl := (h.later hb1).look
  rcases hq with ⟨l, rfl, h1, h2, v, rfl⟩ | ⟨hno, he⟩
  · clear Q1
    go_wp2
    go_ret2
    exact ⟨hb1, .inl ⟨l, rfl, h1, h2, rfl⟩⟩
  · unfold gaveS at he
    subst he
    have HNO := hid hno
    clear Q1 hno
    go_wp2
    exact ⟨rfl, hb1, .inr ⟨HNO.out, rfl⟩⟩

set_option maxHeartbeats 3200000 in
set_option maxRecDepth 100000 in
theorem w_frobenius (p b : Nat) (s : ByteArray) (L : Lets) (m : Int) (w : World) (hs : s.size ≤ 1048576) (h : Looks w p b L m) :
    Calls Tryz.prog 145 #[.pointer (some ⟨p, 0, none⟩), .string s] w fun e w' => Below w.heap.size w w' ∧ LookSay (matsL L s.data.toList) 1 1 (.tuple #[]) e := by
  have Q1 := hid (mats_any p b s 1 1 L m w hs h)
  generalize matsL L s.data.toList = T at *
  go_enter Tryz.func145, Tryz.ntmps145
  go_wp2_with fail
  refine Q1.out.mono ?_
  rintro e w1 ⟨hb1, hq⟩
  rcases hq with ⟨l, rfl, h1, h2, rfl⟩ | ⟨hno, he⟩
  · clear Q1
    go_wp2
    first | go_end0 | refine bodyPost_ret (results_none rfl _ _ _) rfl ?_
    exact ⟨hb1, .inl ⟨l, rfl, h1, h2, rfl⟩⟩
  · unfold gaveS at he
    subst he
    have HNO := hid hno
    clear Q1 hno
    go_wp2
    exact ⟨rfl, hb1, .inr ⟨HNO.out, rfl⟩⟩

set_option maxHeartbeats 3200000 in
set_option maxRecDepth 100000 in
theorem w_similar (p b : Nat) (s : ByteArray) (L : Lets) (m : Int) (w : World) (hs : s.size ≤ 1048576) (h : Looks w p b L m) :
    Calls Tryz.prog 146 #[.pointer (some ⟨p, 0, none⟩), .string s] w fun e w' => Below w.heap.size w w' ∧ LookSay (matsL L s.data.toList) 2 2 (.tuple #[]) e := by
  have Q1 := hid (mats_any p b s 2 2 L m w hs h)
  generalize matsL L s.data.toList = T at *
  go_enter Tryz.func146, Tryz.ntmps146
  go_wp2_with fail
  refine Q1.out.mono ?_
  rintro e w1 ⟨hb1, hq⟩
  rcases hq with ⟨l, rfl, h1, h2, rfl⟩ | ⟨hno, he⟩
  · clear Q1
    go_wp2
    first | go_end0 | refine bodyPost_ret (results_none rfl _ _ _) rfl ?_
    exact ⟨hb1, .inl ⟨l, rfl, h1, h2, rfl⟩⟩
  · unfold gaveS at he
    subst he
    have HNO := hid hno
    clear Q1 hno
    go_wp2
    exact ⟨rfl, hb1, .inr ⟨HNO.out, rfl⟩⟩

set_option maxHeartbeats 3200000 in
set_option maxRecDepth 100000 in
theorem w_char (p b : Nat) (s : ByteArray) (L : Lets) (m : Int) (w : World) (hs : s.size ≤ 1048576) (h : Looks w p b L m) :
    Calls Tryz.prog 147 #[.pointer (some ⟨p, 0, none⟩), .string s] w fun e w' => Below w.heap.size w w' ∧ LookSay (matsL L s.data.toList) 1 1 (.tuple #[]) e := by
  have Q1 := hid (mats_any p b s 1 1 L m w hs h)
  generalize matsL L s.data.toList = T at *
  go_enter Tryz.func147, Tryz.ntmps147
  go_wp2_with fail
  refine Q1.out.mono ?_
  rintro e w1 ⟨hb1, hq⟩
  rcases hq with ⟨l, rfl, h1, h2, rfl⟩ | ⟨hno, he⟩
  · clear Q1
    go_wp2
    first | go_end0 | refine bodyPost_ret (results_none rfl _ _ _) rfl ?_
    exact ⟨hb1, .inl ⟨l, rfl, h1, h2, rfl⟩⟩
  · unfold gaveS at he
    subst he
    have HNO := hid hno
    clear Q1 hno
    go_wp2
    exact ⟨rfl, hb1, .inr ⟨HNO.out, rfl⟩⟩

set_option maxHeartbeats 3200000 in
set_option maxRecDepth 100000 in
theorem w_minpoly (p b : Nat) (s : ByteArray) (L : Lets) (m : Int) (w : World) (hs : s.size ≤ 1048576) (h : Looks w p b L m) :
    Calls Tryz.prog 149 #[.pointer (some ⟨p, 0, none⟩), .string s] w fun e w' => Below w.heap.size w w' ∧ LookSay (matsL L s.data.toList) 1 1 (.tuple #[]) e := by
  have Q1 := hid (mats_any p b s 1 1 L m w hs h)
  generalize matsL L s.data.toList = T at *
  go_enter Tryz.func149, Tryz.ntmps149
  go_wp2_with fail
  refine Q1.out.mono ?_
  rintro e w1 ⟨hb1, hq⟩
  rcases hq with ⟨l, rfl, h1, h2, rfl⟩ | ⟨hno, he⟩
  · clear Q1
    go_wp2
    first | go_end0 | refine bodyPost_ret (results_none rfl _ _ _) rfl ?_
    exact ⟨hb1, .inl ⟨l, rfl, h1, h2, rfl⟩⟩
  · unfold gaveS at he
    subst he
    have HNO := hid hno
    clear Q1 hno
    go_wp2
    exact ⟨rfl, hb1, .inr ⟨HNO.out, rfl⟩⟩

set_option maxHeartbeats 3200000 in
set_option maxRecDepth 100000 in
theorem w_centraliser (p b : Nat) (s : ByteArray) (L : Lets) (m : Int) (w : World) (hs : s.size ≤ 1048576) (h : Looks w p b L m) :
    Calls Tryz.prog 150 #[.pointer (some ⟨p, 0, none⟩), .string s] w fun e w' => Below w.heap.size w w' ∧ LookSay (matsL L s.data.toList) 1 1048576 (.tuple #[]) e := by
  have Q1 := hid (mats_any p b s 1 1048576 L m w hs h)
  generalize matsL L s.data.toList = T at *
  go_enter Tryz.func150, Tryz.ntmps150
  go_wp2_with fail
  refine Q1.out.mono ?_
  rintro e w1 ⟨hb1, hq⟩
  rcases hq with ⟨l, rfl, h1, h2, rfl⟩ | ⟨hno, he⟩
  · clear Q1
    go_wp2
    first | go_end0 | refine bodyPost_ret (results_none rfl _ _ _) rfl ?_
    exact ⟨hb1, .inl ⟨l, rfl, h1, h2, rfl⟩⟩
  · unfold gaveS at he
    subst he
    have HNO := hid hno
    clear Q1 hno
    go_wp2
    exact ⟨rfl, hb1, .inr ⟨HNO.out, rfl⟩⟩

set_option maxHeartbeats 3200000 in
set_option maxRecDepth 100000 in
theorem w_rank (p b : Nat) (s : ByteArray) (L : Lets) (m : Int) (w : World) (hs : s.size ≤ 1048576) (h : Looks w p b L m) :
    Calls Tryz.prog 151 #[.pointer (some ⟨p, 0, none⟩), .string s] w fun e w' => Below w.heap.size w w' ∧ LookSay (matsL L s.data.toList) 1 1 (.tuple #[]) e := by
  have Q1 := hid (mats_any p b s 1 1 L m w hs h)
  generalize matsL L s.data.toList = T at *
  go_enter Tryz.func151, Tryz.ntmps151
  go_wp2_with fail
  refine Q1.out.mono ?_
  rintro e w1 ⟨hb1, hq⟩
  rcases hq with ⟨l, rfl, h1, h2, rfl⟩ | ⟨hno, he⟩
  · clear Q1
    go_wp2
    first | go_end0 | refine bodyPost_ret (results_none rfl _ _ _) rfl ?_
    exact ⟨hb1, .inl ⟨l, rfl, h1, h2, rfl⟩⟩
  · unfold gaveS at he
    subst he
    have HNO := hid hno
    clear Q1 hno
    go_wp2
    exact ⟨rfl, hb1, .inr ⟨HNO.out, rfl⟩⟩

set_option maxHeartbeats 3200000 in
set_option maxRecDepth 100000 in
theorem w_det (p b : Nat) (s : ByteArray) (L : Lets) (m : Int) (w : World) (hs : s.size ≤ 1048576) (h : Looks w p b L m) :
    Calls Tryz.prog 152 #[.pointer (some ⟨p, 0, none⟩), .string s] w fun e w' => Below w.heap.size w w' ∧ LookSay (matsL L s.data.toList) 1 1 (.tuple #[]) e := by
  have Q1 := hid (mats_any p b s 1 1 L m w hs h)
  generalize matsL L s.data.toList = T at *
  go_enter Tryz.func152, Tryz.ntmps152
  go_wp2_with fail
  refine Q1.out.mono ?_
  rintro e w1 ⟨hb1, hq⟩
  rcases hq with ⟨l, rfl, h1, h2, rfl⟩ | ⟨hno, he⟩
  · clear Q1
    go_wp2
    first | go_end0 | refine bodyPost_ret (results_none rfl _ _ _) rfl ?_
    exact ⟨hb1, .inl ⟨l, rfl, h1, h2, rfl⟩⟩
  · unfold gaveS at he
    subst he
    have HNO := hid hno
    clear Q1 hno
    go_wp2
    exact ⟨rfl, hb1, .inr ⟨HNO.out, rfl⟩⟩

set_option maxHeartbeats 3200000 in
set_option maxRecDepth 100000 in
theorem w_inverse (p b : Nat) (s : ByteArray) (L : Lets) (m : Int) (w : World) (hs : s.size ≤ 1048576) (h : Looks w p b L m) :
    Calls Tryz.prog 153 #[.pointer (some ⟨p, 0, none⟩), .string s] w fun e w' => Below w.heap.size w w' ∧ LookSay (matsL L s.data.toList) 1 1 (.tuple #[]) e := by
  have Q1 := hid (mats_any p b s 1 1 L m w hs h)
  generalize matsL L s.data.toList = T at *
  go_enter Tryz.func153, Tryz.ntmps153
  go_wp2_with fail
  refine Q1.out.mono ?_
  rintro e w1 ⟨hb1, hq⟩
  rcases hq with ⟨l, rfl, h1, h2, rfl⟩ | ⟨hno, he⟩
  · clear Q1
    go_wp2
    first | go_end0 | refine bodyPost_ret (results_none rfl _ _ _) rfl ?_
    exact ⟨hb1, .inl ⟨l, rfl, h1, h2, rfl⟩⟩
  · unfold gaveS at he
    subst he
    have HNO := hid hno
    clear Q1 hno
    go_wp2
    exact ⟨rfl, hb1, .inr ⟨HNO.out, rfl⟩⟩

set_option maxHeartbeats 3200000 in
set_option maxRecDepth 100000 in
theorem w_key (p b : Nat) (s : ByteArray) (L : Lets) (m : Int) (w : World) (hs : s.size ≤ 1048576) (h : Looks w p b L m) :
    Calls Tryz.prog 154 #[.pointer (some ⟨p, 0, none⟩), .string s] w fun e w' => Below w.heap.size w w' ∧ LookSay (matsL L s.data.toList) 1 1 (.tuple #[]) e := by
  have Q1 := hid (mats_any p b s 1 1 L m w hs h)
  generalize matsL L s.data.toList = T at *
  go_enter Tryz.func154, Tryz.ntmps154
  go_wp2_with fail
  refine Q1.out.mono ?_
  rintro e w1 ⟨hb1, hq⟩
  rcases hq with ⟨l, rfl, h1, h2, rfl⟩ | ⟨hno, he⟩
  · clear Q1
    go_wp2
    first | go_end0 | refine bodyPost_ret (results_none rfl _ _ _) rfl ?_
    exact ⟨hb1, .inl ⟨l, rfl, h1, h2, rfl⟩⟩
  · unfold gaveS at he
    subst he
    have HNO := hid hno
    clear Q1 hno
    go_wp2
    exact ⟨rfl, hb1, .inr ⟨HNO.out, rfl⟩⟩
end Go.Proofs.YtinmoligjcajmaaGreatDoor
/- session.words: the lines' words. -/
namespace Go.Proofs.YtinmoligjcajmaaGreatDoor
open Go.RowKit Go.Ev Go.Vl

abbrev WdA := List (Tx × Nat)
def entW : WdA → Nat → List (AV × AV × Nat)
  | [], _ => []
  | x :: A, i => (.str (tx x.1), .fn (.func x.2) [] [], i) :: entW A (i + 1)
def fW (n : Tx) : WdA → Nat → Option (Nat × Nat)
  | [], _ => none
  | x :: A, i => if x.1 == n then some (i, x.2) else fW n A (i + 1)
theorem find_entW (n : Tx) : ∀ (A : WdA) (i j : Nat), eFind .string (.str (tx n)) (entW A j) i = some ((fW n A i).map fun p => (p.1, .fn (.func p.2) [] []))
  | [], _, _ => rfl
  | x :: A, i, j => by
    show (match eSame .string (.str (tx n)) (.str (tx x.1)) with
      | some true => some (some (i, AV.fn (.func x.2) [] []))
      | some false => eFind .string (.str (tx n)) (entW A (j + 1)) (i + 1)
      | none => none) = _
    have h : eSame .string (.str (tx n)) (.str (tx x.1)) = some (x.1 == n) := by
      show some (tx n == tx x.1) = _
      rw [tx_same, Bool.beq_comm]
    rw [h]
    unfold fW
    cases hx : x.1 == n with
    | true => rfl
    | false => exact find_entW n A (i + 1) (j + 1)
theorem entW_snoc (n : Tx) (f : Nat) : ∀ (A : WdA) (j : Nat), entW (A ++ [(n, f)]) j = entW A j ++ [(.str (tx n), .fn (.func f) [] [], j + A.length)]
  | [], _ => rfl
  | x :: A, j => by
    show _ :: entW (A ++ [(n, f)]) (j + 1) = _ :: (entW A (j + 1) ++ _)
    rw [entW_snoc n f A (j + 1)]
    simp only [List.length_cons]
    rw [show j + 1 + A.length = j + (A.length + 1) by omega]

/-- the map at block b holds the words A, each with its function -/
def WordsIs (w : World) (b : Nat) (A : WdA) : Prop := ∃ es : Array MapEntry, w.heap[b]? = some (.map es A.length) ∧ EsRel (fun _ => none) (entW A 0) es.toList
theorem words_new (w : World) : WordsIs (w.alloc (.map #[] 0)) w.heap.size [] := ⟨#[], heap_alloc_new w _, .nil⟩
theorem words_put {w : World} {b : Nat} {A : WdA} (h : WordsIs w b A) (n : Tx) (f : Nat) (hn : fW n A 0 = none) :
    ∃ w', (Instr.mapUpdate 170 (.map (some b)) (.string (tx n)) (.func (.func f) #[] #[])).run Tryz.prog w = .ok () w' ∧ WordsIs w' b (A ++ [(n, f)]) ∧ w.grownBy w' (some b) := by
  obtain ⟨es, h1, h2⟩ := h
  have hlt : b < w.heap.size := (Array.getElem?_eq_some_iff.1 h1).1
  have hck := run_checkKey (P := Tryz.prog) (w := w) czOk (t := 9) (d := .string) rfl rfl false 9999 (.string (tx n))
  obtain ⟨r', q1, q2⟩ := run_findKey (P := Tryz.prog) (w := w) czOk (t := 9) (d := .string) rfl (.str (tx n)) h2 (find_entW n A 0 0)
  rw [hn] at q2
  cases q2 with
  | none =>
    refine ⟨{ w with heap := w.heap.setIfInBounds b (.map (es.push { key := .string (tx n), val := .func (.func f) #[] #[], born := A.length }) (A.length + 1)) }, ?_, ⟨es.push { key := .string (tx n), val := .func (.func f) #[] #[], born := A.length }, by simp [hlt], ?_⟩, ⟨rfl, rfl, rfl, by simp, fun i hi hne => by
      show (w.heap.setIfInBounds b _)[i]? = w.heap[i]?
      rw [Array.getElem?_setIfInBounds_ne (fun e => hne (by rw [e]))]⟩⟩
    · simp [Instr.mapUpdate, run_und czOk (t := 170) (d := .map 9 169) rfl w, getObj, setObj, Sem.run, h1, hck, q1, Result.andThen]
    · rw [Array.toList_push, entW_snoc, Nat.zero_add]
      exact h2.push (.str _) (.fn (us := []) (vs := []) .nil .nil)
theorem words_look {w : World} {b : Nat} {A : WdA} (h : WordsIs w b A) (n : Tx) :
    (Instr.lookup 170 (.map (some b)) (.string (tx n)) false).run Tryz.prog w = .ok (match fW n A 0 with | some p => .func (.func p.2) #[] #[] | none => .nilFunc) w := by
  obtain ⟨es, h1, h2⟩ := h
  have hck := run_checkKey (P := Tryz.prog) (w := w) czOk (t := 9) (d := .string) rfl rfl es.isEmpty 9999 (.string (tx n))
  obtain ⟨r', q1, q2⟩ := run_findKey (P := Tryz.prog) (w := w) czOk (t := 9) (d := .string) rfl (.str (tx n)) h2 (find_entW n A 0 0)
  rw [run_lookup (run_und czOk (t := 170) (d := .map 9 169) rfl w) (.inr ⟨b, _, rfl, h1⟩) hck q1]
  generalize fW n A 0 = F at *
  cases F with
  | none =>
    cases q2
    have hz : (zeroValue 169).run Tryz.prog w = .ok .nilFunc w := by kernel_rfl
    simp only [hz, Result.andThen]
    rfl
  | some p =>
    cases q2 with
    | some q2 =>
      cases q2 with
      | fn q2 q3 =>
        cases q2
        cases q3
        rfl

section
variable (w : World) {ops : Array Oper} {rest : List Oper} {o : Oper} {a : Act} {Q : Exit → Act → World → Prop}
theorem wpl_ins (hg : o.guard = none) (m x v : Operand) (hop : o.op = Op.insert 170 m x v) (b : Nat) (A : WdA) (n : Tx) (f : Nat)
    (hm : a.eval m = .map (some b)) (h : WordsIs w b A) (hx : a.eval x = .string (tx n)) (hv : a.eval v = .func (.func f) #[] #[]) (hn : fW n A 0 = none)
    (hK : ∀ w', WordsIs w' b (A ++ [(n, f)]) → w.grownBy w' (some b) → wpList Tryz.prog ops Q rest (a.put o.dst undef) w') :
    wpList Tryz.prog ops Q (o :: rest) a w := by
  refine wpList_plain hg fun K' hK' => ?_
  obtain ⟨w', hrun, r1, r2⟩ := words_put h n f hn
  unfold Oper.wp
  simp [execOp, hop, hm, hx, hv, hrun, Result.andThen]
  exact hK' _ _ (hK w' r1 r2)
theorem wpl_wlook (hg : o.guard = none) (m x : Operand) (hop : o.op = Op.lookup 170 m x false) (b : Nat) (A : WdA) (n : Tx)
    (hm : a.eval m = .map (some b)) (h : WordsIs w b A) (hx : a.eval x = .string (tx n))
    (hK : wpList Tryz.prog ops Q rest (a.put o.dst (match fW n A 0 with | some p => .func (.func p.2) #[] #[] | none => .nilFunc)) w) :
    wpList Tryz.prog ops Q (o :: rest) a w := by
  refine wpList_plain hg fun K' hK' => ?_
  unfold Oper.wp
  simp [execOp, hop, hm, hx, words_look h n, Result.andThen]
  exact hK' _ _ hK
end

def wordsA : WdA := [(cLet, 144), (cFro, 145), (cSim, 146), (cCha, 147), (cRou, 148), (cMin, 149), (cCen, 150), (cRan, 151), (cDet, 152), (cInv, 153), (cKey, 154)]

set_option maxHeartbeats 3200000 in
theorem words_any (w : World) : Calls Tryz.prog 95 #[] w fun e w' => Below w.heap.size w w' ∧ ∃ b, e = .returned (.map (some b)) ∧ WordsIs w' b wordsA := by
  have hn := words_new w
  have hb := (Below.refl w.heap.size w).alloc (Nat.le_refl _) (.map #[] 0)
  have hmm := @run_makeMap Tryz.prog
  go_enter Tryz.func95, Tryz.ntmps95
  go_wp2_with (refine wpl_ins _ rfl _ _ _ rfl w.heap.size [] cLet 144 rfl hn rfl rfl rfl ?_)
  intro w1 h1 g1
  have b1 := below_grown hb g1 (hb).size (Nat.le_refl _)
  try simp only [List.nil_append, List.cons_append] at h1
  clear hn g1
  go_wp2_with (refine wpl_ins _ rfl _ _ _ rfl w.heap.size [(cLet, 144)] cFro 145 rfl h1 rfl rfl rfl ?_)
  intro w2 h2 g2
  have b2 := below_grown b1 g2 (b1).size (Nat.le_refl _)
  try simp only [List.nil_append, List.cons_append] at h2
  clear h1 g2
  go_wp2_with (refine wpl_ins _ rfl _ _ _ rfl w.heap.size [(cLet, 144), (cFro, 145)] cSim 146 rfl h2 rfl rfl rfl ?_)
  intro w3 h3 g3
  have b3 := below_grown b2 g3 (b2).size (Nat.le_refl _)
  try simp only [List.nil_append, List.cons_append] at h3
  clear h2 g3
  go_wp2_with (refine wpl_ins _ rfl _ _ _ rfl w.heap.size [(cLet, 144), (cFro, 145), (cSim, 146)] cCha 147 rfl h3 rfl rfl rfl ?_)
  intro w4 h4 g4
  have b4 := below_grown b3 g4 (b3).size (Nat.le_refl _)
  try simp only [List.nil_append, List.cons_append] at h4
  clear h3 g4
  go_wp2_with (refine wpl_ins _ rfl _ _ _ rfl w.heap.size [(cLet, 144), (cFro, 145), (cSim, 146), (cCha, 147)] cRou 148 rfl h4 rfl rfl rfl ?_)
  intro w5 h5 g5
  have b5 := below_grown b4 g5 (b4).size (Nat.le_refl _)
  try simp only [List.nil_append, List.cons_append] at h5
  clear h4 g5
  go_wp2_with (refine wpl_ins _ rfl _ _ _ rfl w.heap.size [(cLet, 144), (cFro, 145), (cSim, 146), (cCha, 147), (cRou, 148)] cMin 149 rfl h5 rfl rfl rfl ?_)
  intro w6 h6 g6
  have b6 := below_grown b5 g6 (b5).size (Nat.le_refl _)
  try simp only [List.nil_append, List.cons_append] at h6
  clear h5 g6
  go_wp2_with (refine wpl_ins _ rfl _ _ _ rfl w.heap.size [(cLet, 144), (cFro, 145), (cSim, 146), (cCha, 147), (cRou, 148), (cMin, 149)] cCen 150 rfl h6 rfl rfl rfl ?_)
  intro w7 h7 g7
  have b7 := below_grown b6 g7 (b6).size (Nat.le_refl _)
  try simp only [List.nil_append, List.cons_append] at h7
  clear h6 g7
  go_wp2_with (refine wpl_ins _ rfl _ _ _ rfl w.heap.size [(cLet, 144), (cFro, 145), (cSim, 146), (cCha, 147), (cRou, 148), (cMin, 149), (cCen, 150)] cRan 151 rfl h7 rfl rfl rfl ?_)
  intro w8 h8 g8
  have b8 := below_grown b7 g8 (b7).size (Nat.le_refl _)
  try simp only [List.nil_append, List.cons_append] at h8
  clear h7 g8
  go_wp2_with (refine wpl_ins _ rfl _ _ _ rfl w.heap.size [(cLet, 144), (cFro, 145), (cSim, 146), (cCha, 147), (cRou, 148), (cMin, 149), (cCen, 150), (cRan, 151)] cDet 152 rfl h8 rfl rfl rfl ?_)
  intro w9 h9 g9
  have b9 := below_grown b8 g9 (b8).size (Nat.le_refl _)
  try simp only [List.nil_append, List.cons_append] at h9
  clear h8 g9
  go_wp2_with (refine wpl_ins _ rfl _ _ _ rfl w.heap.size [(cLet, 144), (cFro, 145), (cSim, 146), (cCha, 147), (cRou, 148), (cMin, 149), (cCen, 150), (cRan, 151), (cDet, 152)] cInv 153 rfl h9 rfl rfl rfl ?_)
  intro w10 h10 g10
  have b10 := below_grown b9 g10 (b9).size (Nat.le_refl _)
  try simp only [List.nil_append, List.cons_append] at h10
  clear h9 g10
  go_wp2_with (refine wpl_ins _ rfl _ _ _ rfl w.heap.size [(cLet, 144), (cFro, 145), (cSim, 146), (cCha, 147), (cRou, 148), (cMin, 149), (cCen, 150), (cRan, 151), (cDet, 152), (cInv, 153)] cKey 154 rfl h10 rfl rfl rfl ?_)
  intro w11 h11 g11
  have b11 := below_grown b10 g11 (b10).size (Nat.le_refl _)
  try simp only [List.nil_append, List.cons_append] at h11
  clear h10 g11
  go_wp2
  go_ret
  exact ⟨b11, _, rfl, h11⟩
end Go.Proofs.YtinmoligjcajmaaGreatDoor
/- (*player).let. -/
namespace Go.Proofs.YtinmoligjcajmaaGreatDoor
open Go.RowKit Go.Vl

def letP (s : Tx) : Option (Tx × Tx) :=
  if (cutL s).2.2 = true ∧ nameL (cutL s).1 = true then
    match brackL (cutL s).2.1 with
    | some (t, []) => some ((cutL s).1, t)
    | _ => none
  else none
theorem letR_P (s : Tx) : letR s = match letP s with | some x => (x.1, [x.2], true) | none => ([], [], false) := by
  unfold letR letP
  by_cases h1 : (cutL s).2.2 = true ∧ nameL (cutL s).1 = true
  · rw [if_pos h1]
    generalize (cutL s).2.1 = t
    generalize hnm : (cutL s).1 = nm at *
    by_cases h2 : t.head? = some 91 ∧ t.findIdx (· == 93) < t.length
    · have hb : brackL t = some ((t.take (t.findIdx (· == 93))).drop 1, t.drop (t.findIdx (· == 93) + 1)) := if_pos h2
      rw [hb]
      have h0 : t.findIdx (· == 93) ≠ 0 := by
        intro h
        cases t with
        | nil => cases h2.1
        | cons c r =>
          obtain rfl : c = 91 := by simpa using h2.1
          rw [List.findIdx_cons] at h
          simp at h
      by_cases h3 : t.findIdx (· == 93) = t.length - 1
      · have hd : t.drop (t.findIdx (· == 93) + 1) = [] := List.drop_eq_nil_of_le (by omega)
        rw [hd, if_pos ⟨h1.1, h1.2, by omega, h2.1, h3⟩, h3]
      · have hd : t.drop (t.findIdx (· == 93) + 1) ≠ [] := by
          intro h
          have := congrArg List.length h
          rw [List.length_drop] at this
          simp at this
          omega
        rw [if_neg (fun h => h3 h.2.2.2.2)]
        generalize t.drop (t.findIdx (· == 93) + 1) = r2 at hd ⊢
        cases r2 with
        | nil => exact absurd rfl hd
        | cons a l => rfl
    · have hb : brackL t = none := if_neg h2
      rw [hb, if_neg (fun h => h2 ⟨h.2.2.2.1, by have := h.2.2.1; have := h.2.2.2.2; omega⟩)]
  · rw [if_neg h1, if_neg (fun h => h1 ⟨h.1, h.2.1⟩)]

theorem grown_later {a b c : World} {row : Option Nat} (h : Below a.heap.size a b) (k : b.grownBy c row) : a.grownBy c row :=
  ⟨k.os.trans h.os, k.tape.trans h.tape, k.output.trans h.output, Nat.le_trans h.size k.size, fun i hi hr => (k.block i (Nat.lt_of_lt_of_le hi h.size) hr).trans (h.block i hi)⟩
set_option maxHeartbeats 3200000 in
set_option maxRecDepth 100000 in
theorem let_any (p b : Nat) (s : ByteArray) (L : Lets) (m : Int) (w : World) (hs : s.size ≤ 1048576) (h : Looks w p b L m) :
    Calls Tryz.prog 144 #[.pointer (some ⟨p, 0, none⟩), .string s] w fun e w' => w.grownBy w' (some b) ∧
      ((∃ n t, letP s.data.toList = some (n, t) ∧ e = .returned (.tuple #[]) ∧ NamesIs w' b (L ++ [(n, t)])) ∨ (letP s.data.toList = none ∧ e = gaveS ∧ NamesIs w' b L)) := by
  have hsl := size_len s
  have QC := hid (cut_any s m w (by omega) h.max)
  have hcl := cutL_len s.data.toList
  obtain ⟨T, hT⟩ : ∃ T, letP s.data.toList = T := ⟨_, rfl⟩
  have hTu := hT
  rw [hT]
  clear hT
  unfold letP at hTu
  generalize cutL s.data.toList = C at *
  obtain ⟨nm, rs, ok⟩ := C
  dsimp only at hTu hcl QC
  have HT := hid hTu
  clear hTu
  have Q2 := hid fun w => name_any (tx nm) w (by rw [← size_len]; show nm.length ≤ _; omega)
  have hq2 : nameL (tx nm).data.toList = nameL nm := rfl
  rw [hq2] at Q2
  have Q3 := hid fun w => bracket_any (tx rs) w (by rw [← size_len]; show rs.length ≤ _; omega)
  have hq3 : brackL (tx rs).data.toList = brackL rs := rfl
  rw [hq3] at Q3
  clear hq2 hq3
  cases ok with
  | false =>
    have HN : Hid (T = none) := hid (by rw [← HT.out]; exact if_neg (by simp))
    go_enter Tryz.func144, Tryz.ntmps144
    go_wp2_with fail
    refine QC.out.mono ?_
    rintro e w1 ⟨rfl, hb1⟩
    have hn1 := h.is.later hb1
    clear QC
    go_wp2
    exact ⟨rfl, grown_below hb1, .inr ⟨HN.out, rfl, hn1⟩⟩
  | true =>
    generalize nameL nm = nb at *
    cases nb with
    | false =>
      have HN : Hid (T = none) := hid (by rw [← HT.out]; exact if_neg (by simp))
      go_enter Tryz.func144, Tryz.ntmps144
      go_wp2_with fail
      refine QC.out.mono ?_
      rintro e w1 ⟨rfl, hb1⟩
      go_wp2_with fail
      refine (Q2.out _).mono ?_
      rintro e w2 ⟨hb2, rfl⟩
      have hb := hb1.trans (hb2.mono hb1.size)
      have hn1 := h.is.later hb
      clear QC Q2
      go_wp2
      exact ⟨rfl, grown_below hb, .inr ⟨HN.out, rfl, hn1⟩⟩
    | true =>
      have HT2 : Hid ((match brackL rs with | some (t, []) => some (nm, t) | _ => none) = T) := hid (by rw [← HT.out]; exact (if_pos ⟨rfl, rfl⟩).symm)
      clear HT
      go_enter Tryz.func144, Tryz.ntmps144
      go_wp2_with fail
      refine QC.out.mono ?_
      rintro e w1 ⟨rfl, hb1⟩
      go_wp2_with fail
      refine (Q2.out _).mono ?_
      rintro e w2 ⟨hb2, rfl⟩
      go_wp2_with fail
      refine (Q3.out _).mono ?_
      rintro e w3 ⟨hb3, he⟩
      have hb12 := hb1.trans (hb2.mono hb1.size)
      have hb := hb12.trans (hb3.mono hb12.size)
      have hl := h.later hb
      have hn1 := hl.is
      have hnames := hl.names
      generalize brackL rs = B at *
      cases B with
      | none =>
        have HN : Hid (T = none) := hid HT2.out.symm
        unfold brackE gaveS at he
        subst he
        clear QC Q2 Q3
        go_wp2
        exact ⟨rfl, grown_below hb, .inr ⟨HN.out, rfl, hn1⟩⟩
      | some x =>
        obtain ⟨t, r2⟩ := x
        unfold brackE at he
        dsimp only at he
        subst he
        cases r2 with
        | nil =>
          have HN : Hid (T = some (nm, t)) := hid HT2.out.symm
          clear QC Q2 Q3
          go_wp2_with (at_mapUpdate; refine wpl_put _ rfl _ _ _ rfl b L nm t rfl hn1 rfl rfl ?_)
          intro w4 hn4 hg4
          go_wp2
          go_end0
          exact ⟨grown_later hb hg4, .inl ⟨nm, t, HN.out, rfl, hn4⟩⟩
        | cons a l =>
          have HN : Hid (T = none) := hid HT2.out.symm
          clear QC Q2 Q3
          go_wp2
          exact ⟨rfl, grown_below hb, .inr ⟨HN.out, rfl, hn1⟩⟩
end Go.Proofs.YtinmoligjcajmaaGreatDoor
/- route.Get, road, route: where lines are looked at alone. -/
namespace Go.Proofs.YtinmoligjcajmaaGreatDoor
open Go.RowKit Go.Vl

def roadC : List Value := [.iface 445 (.agg #[.string (tx (roadsT.getD 0 []))]), .iface 445 (.agg #[.string (tx (roadsT.getD 1 []))]), .iface 445 (.agg #[.string (tx (roadsT.getD 2 []))]), .iface 445 (.agg #[.string (tx (roadsT.getD 3 []))]), .iface 445 (.agg #[.string (tx (roadsT.getD 4 []))]), .iface 446 (.agg #[.string (tx (roadsT.getD 5 []))])]
theorem roads_any (w : World) : Calls Tryz.prog 296 #[] w fun e w' => Below w.heap.size w w' ∧ e = .returned (.slice (some ⟨w.heap.size, 0, none⟩) 6 6) ∧ BoxIs w' w.heap.size 324 roadC := by
  have hb := (Below.refl w.heap.size w).alloc (Nat.le_refl _) (.cells roadC.toArray 324)
  have bx := BoxIs.new w roadC.toArray 324
  go_enter Tryz.func296, Tryz.ntmps296
  go_wp2
  go_ret
  exact ⟨hb, rfl, bx⟩
theorem name1_any (s : ByteArray) (w : World) : Calls Tryz.prog 494 #[.agg #[.string s]] w fun e w' => e = .returned (.string s) ∧ Below w.heap.size w w' := by
  go_enter Tryz.func494, Tryz.ntmps494
  go_wp2
  go_ret
  exact ⟨rfl, (Below.refl _ _).alloc (Nat.le_refl _) _⟩
theorem name2_any (s : ByteArray) (w : World) : Calls Tryz.prog 542 #[.agg #[.string s]] w fun e w' => e = .returned (.string s) ∧ Below w.heap.size w w' := by
  go_enter Tryz.func542, Tryz.ntmps542
  go_wp2
  go_ret
  exact ⟨rfl, (Below.refl _ _).alloc (Nat.le_refl _) _⟩

theorem meth1 (s : ByteArray) (w : World) : (method 821 445 (.agg #[.string s]) "Name").run Tryz.prog w = .ok (494, .agg #[.string s]) w := by kernel_rfl
theorem meth2 (s : ByteArray) (w : World) : (method 821 446 (.agg #[.string s]) "Name").run Tryz.prog w = .ok (542, .agg #[.string s]) w := by kernel_rfl

set_option maxHeartbeats 3200000 in
set_option maxRecDepth 100000 in
theorem get_any (n : Tx) (w : World) : Calls Tryz.prog 246 #[.string (tx n)] w fun e w' => Below w.heap.size w w' ∧ ∃ v, e = .returned (.tuple #[v, .int .i64 (if roadB n = true then 0 else 260)]) := by
  have Q1 := hid (roads_any w)
  obtain ⟨T, hT⟩ : ∃ T, roadB n = T := ⟨_, rfl⟩
  rw [hT]
  have HT := hid hT
  clear hT
  go_enter Tryz.func246, Tryz.ntmps246
  go_wp2_with fail
  refine Q1.out.mono ?_
  rintro e w1 ⟨hb1, rfl, bx⟩
  clear Q1
  go_wp2
  go_loopg [8] 6 (fun gk i wr => ∃ k : Nat, gk = 6 - k ∧ i = .int .i64 (k : Nat) ∧ k ≤ 6 ∧ Below w1.heap.size w1 wr ∧ T = (roadsT.drop k).any (fun x => x == n))
  case atStart => exact ⟨0, rfl, rfl, Nat.zero_le _, Below.refl _ _, HT.out.symm⟩
  case round =>
    obtain ⟨k, hgk, rfl, hk6, hbel, hTk⟩ := hrel
    have bx := bx.later hbel
    have hb0 := hb1.trans (hbel.mono hb1.size)
    have HGK := hid hgk
    have HTK := hid hTk
    clear hgk hTk HT
    rcases (by omega : k = 0 ∨ k = 1 ∨ k = 2 ∨ k = 3 ∨ k = 4 ∨ k = 5 ∨ k = 6) with rfl | rfl | rfl | rfl | rfl | rfl | rfl
    · have hc := bx.cell 0 _ rfl
      have hm := meth1
      have hT1 : T = ((roadsT.getD 0 []) == n || (roadsT.drop (0 + 1)).any (fun x => x == n)) := HTK.out
      generalize roadsT.getD 0 [] = nk at *
      have QN := hid fun w => name1_any (tx nk) w
      cases hn : nk == n with
      | true =>
        rw [hn, Bool.true_or] at hT1
        have HT1 := hid hT1
        clear hT1
        go_wp2_with fail
        refine (QN.out _).mono ?_
        rintro e w2 ⟨rfl, hb2⟩
        go_wp2
        go_ret2
        have hT9 := HT1.out
        subst hT9
        exact ⟨hb0.trans (hb2.mono hb0.size), _, rfl⟩
      | false =>
        rw [hn, Bool.false_or] at hT1
        have HT1 := hid hT1
        clear hT1
        go_wp2_with fail
        refine (QN.out _).mono ?_
        rintro e w2 ⟨rfl, hb2⟩
        go_wp2
        go_roundg (6 - (0 + 1))
        case measure => have := HGK.out; omega
        case rel => exact ⟨0 + 1, rfl, rfl, by omega, hbel.trans (hb2.mono hbel.size), HT1.out⟩
    · have hc := bx.cell 1 _ rfl
      have hm := meth1
      have hT1 : T = ((roadsT.getD 1 []) == n || (roadsT.drop (1 + 1)).any (fun x => x == n)) := HTK.out
      generalize roadsT.getD 1 [] = nk at *
      have QN := hid fun w => name1_any (tx nk) w
      cases hn : nk == n with
      | true =>
        rw [hn, Bool.true_or] at hT1
        have HT1 := hid hT1
        clear hT1
        go_wp2_with fail
        refine (QN.out _).mono ?_
        rintro e w2 ⟨rfl, hb2⟩
        go_wp2
        go_ret2
        have hT9 := HT1.out
        subst hT9
        exact ⟨hb0.trans (hb2.mono hb0.size), _, rfl⟩
      | false =>
        rw [hn, Bool.false_or] at hT1
        have HT1 := hid hT1
        clear hT1
        go_wp2_with fail
        refine (QN.out _).mono ?_
        rintro e w2 ⟨rfl, hb2⟩
        go_wp2
        go_roundg (6 - (1 + 1))
        case measure => have := HGK.out; omega
        case rel => exact ⟨1 + 1, rfl, rfl, by omega, hbel.trans (hb2.mono hbel.size), HT1.out⟩
    · have hc := bx.cell 2 _ rfl
      have hm := meth1
      have hT1 : T = ((roadsT.getD 2 []) == n || (roadsT.drop (2 + 1)).any (fun x => x == n)) := HTK.out
      generalize roadsT.getD 2 [] = nk at *
      have QN := hid fun w => name1_any (tx nk) w
      cases hn : nk == n with
      | true =>
        rw [hn, Bool.true_or] at hT1
        have HT1 := hid hT1
        clear hT1
        go_wp2_with fail
        refine (QN.out _).mono ?_
        rintro e w2 ⟨rfl, hb2⟩
        go_wp2
        go_ret2
        have hT9 := HT1.out
        subst hT9
        exact ⟨hb0.trans (hb2.mono hb0.size), _, rfl⟩
      | false =>
        rw [hn, Bool.false_or] at hT1
        have HT1 := hid hT1
        clear hT1
        go_wp2_with fail
        refine (QN.out _).mono ?_
        rintro e w2 ⟨rfl, hb2⟩
        go_wp2
        go_roundg (6 - (2 + 1))
        case measure => have := HGK.out; omega
        case rel => exact ⟨2 + 1, rfl, rfl, by omega, hbel.trans (hb2.mono hbel.size), HT1.out⟩
    · have hc := bx.cell 3 _ rfl
      have hm := meth1
      have hT1 : T = ((roadsT.getD 3 []) == n || (roadsT.drop (3 + 1)).any (fun x => x == n)) := HTK.out
      generalize roadsT.getD 3 [] = nk at *
      have QN := hid fun w => name1_any (tx nk) w
      cases hn : nk == n with
      | true =>
        rw [hn, Bool.true_or] at hT1
        have HT1 := hid hT1
        clear hT1
        go_wp2_with fail
        refine (QN.out _).mono ?_
        rintro e w2 ⟨rfl, hb2⟩
        go_wp2
        go_ret2
        have hT9 := HT1.out
        subst hT9
        exact ⟨hb0.trans (hb2.mono hb0.size), _, rfl⟩
      | false =>
        rw [hn, Bool.false_or] at hT1
        have HT1 := hid hT1
        clear hT1
        go_wp2_with fail
        refine (QN.out _).mono ?_
        rintro e w2 ⟨rfl, hb2⟩
        go_wp2
        go_roundg (6 - (3 + 1))
        case measure => have := HGK.out; omega
        case rel => exact ⟨3 + 1, rfl, rfl, by omega, hbel.trans (hb2.mono hbel.size), HT1.out⟩
    · have hc := bx.cell 4 _ rfl
      have hm := meth1
      have hT1 : T = ((roadsT.getD 4 []) == n || (roadsT.drop (4 + 1)).any (fun x => x == n)) := HTK.out
      generalize roadsT.getD 4 [] = nk at *
      have QN := hid fun w => name1_any (tx nk) w
      cases hn : nk == n with
      | true =>
        rw [hn, Bool.true_or] at hT1
        have HT1 := hid hT1
        clear hT1
        go_wp2_with fail
        refine (QN.out _).mono ?_
        rintro e w2 ⟨rfl, hb2⟩
        go_wp2
        go_ret2
        have hT9 := HT1.out
        subst hT9
        exact ⟨hb0.trans (hb2.mono hb0.size), _, rfl⟩
      | false =>
        rw [hn, Bool.false_or] at hT1
        have HT1 := hid hT1
        clear hT1
        go_wp2_with fail
        refine (QN.out _).mono ?_
        rintro e w2 ⟨rfl, hb2⟩
        go_wp2
        go_roundg (6 - (4 + 1))
        case measure => have := HGK.out; omega
        case rel => exact ⟨4 + 1, rfl, rfl, by omega, hbel.trans (hb2.mono hbel.size), HT1.out⟩
    · have hc := bx.cell 5 _ rfl
      have hm := meth2
      have hT1 : T = ((roadsT.getD 5 []) == n || (roadsT.drop (5 + 1)).any (fun x => x == n)) := HTK.out
      generalize roadsT.getD 5 [] = nk at *
      have QN := hid fun w => name2_any (tx nk) w
      cases hn : nk == n with
      | true =>
        rw [hn, Bool.true_or] at hT1
        have HT1 := hid hT1
        clear hT1
        go_wp2_with fail
        refine (QN.out _).mono ?_
        rintro e w2 ⟨rfl, hb2⟩
        go_wp2
        go_ret2
        have hT9 := HT1.out
        subst hT9
        exact ⟨hb0.trans (hb2.mono hb0.size), _, rfl⟩
      | false =>
        rw [hn, Bool.false_or] at hT1
        have HT1 := hid hT1
        clear hT1
        go_wp2_with fail
        refine (QN.out _).mono ?_
        rintro e w2 ⟨rfl, hb2⟩
        go_wp2
        go_roundg (6 - (5 + 1))
        case measure => have := HGK.out; omega
        case rel => exact ⟨5 + 1, rfl, rfl, by omega, hbel.trans (hb2.mono hbel.size), HT1.out⟩
    · have h0 : T = false := HTK.out
      subst h0
      go_wp2
      go_ret2
      exact ⟨hb0, _, rfl⟩
end Go.Proofs.YtinmoligjcajmaaGreatDoor
/- road, route: where lines are looked at alone. -/
namespace Go.Proofs.YtinmoligjcajmaaGreatDoor
open Go.RowKit Go.Vl

/-- how a word ends -/
def okE (ok : Bool) : Ending := if ok = true then .returned (.tuple #[]) else gaveS
def okT (T : Option (List Tx)) (lo hi : Nat) : Bool := match T with
  | some l => decide (lo ≤ l.length) && decide (l.length ≤ hi)
  | none => false
theorem look_ok {T : Option (List Tx)} {lo hi : Nat} {e : Ending} (h : LookSay T (lo : Nat) (hi : Nat) (.tuple #[]) e) : e = okE (okT T lo hi) := by
  rcases h with ⟨l, rfl, h1, h2, rfl⟩ | ⟨h1, rfl⟩
  · have hd : okT (some l) lo hi = true := by
      show (decide (lo ≤ l.length) && decide (l.length ≤ hi)) = true
      simp only [Bool.and_eq_true, decide_eq_true_eq]
      omega
    rw [hd]
    rfl
  · have hd : okT T lo hi = false := by
      cases T with
      | none => rfl
      | some l =>
        have := h1 l rfl
        show (decide (lo ≤ l.length) && decide (l.length ≤ hi)) = false
        rw [Bool.eq_false_iff]
        intro h
        simp only [Bool.and_eq_true, decide_eq_true_eq] at h
        omega
    rw [hd]
    rfl

set_option maxHeartbeats 3200000 in
set_option maxRecDepth 100000 in
theorem road_any (p b : Nat) (nm : Tx) (s : ByteArray) (L : Lets) (m : Int) (w : World) (hs : s.size ≤ 1048576) (h : Looks w p b L m) :
    Calls Tryz.prog 195 #[.pointer (some ⟨p, 0, none⟩), .string (tx nm), .string s] w fun e w' => Below w.heap.size w w' ∧ e = okE (roadB nm && okT (matsL L s.data.toList) 1 1) := by
  have Q1 := hid (get_any nm w)
  have Q2 := hid fun w1 (h1 : Looks w1 p b L m) => mats_any p b s 1 1 L m w1 hs h1
  generalize matsL L s.data.toList = T at *
  cases hr : roadB nm with
  | false =>
    rw [hr] at Q1
    have Q1 : Hid (Calls Tryz.prog 246 #[.string (tx nm)] w fun e w' => Below w.heap.size w w' ∧ ∃ v, e = .returned (.tuple #[v, .int .i64 260])) := Q1
    go_enter Tryz.func195, Tryz.ntmps195
    go_wp2_with fail
    refine Q1.out.mono ?_
    rintro e w1 ⟨hb1, v, rfl⟩
    clear Q1 Q2
    go_wp2
    exact ⟨rfl, hb1, rfl⟩
  | true =>
    rw [hr] at Q1
    have Q1 : Hid (Calls Tryz.prog 246 #[.string (tx nm)] w fun e w' => Below w.heap.size w w' ∧ ∃ v, e = .returned (.tuple #[v, .int .i64 0])) := Q1
    obtain ⟨Z, hZ⟩ : ∃ Z, okE (true && okT T 1 1) = Z := ⟨_, rfl⟩
    rw [hZ]
    have HZ := hid hZ
    clear hZ
    go_enter Tryz.func195, Tryz.ntmps195
    go_wp2_with fail
    refine Q1.out.mono ?_
    rintro e w1 ⟨hb1, v, rfl⟩
    go_wp2_with fail
    refine (Q2.out _ (h.later hb1)).mono ?_
    rintro e w2 ⟨hb2, hq⟩
    have hb := hb1.trans (hb2.mono hb1.size)
    rcases hq with ⟨l, rfl, h1, h2, rfl⟩ | ⟨hno, he⟩
    · have HE := hid (look_ok (lo := 1) (hi := 1) (.inl ⟨l, rfl, h1, h2, rfl⟩))
      clear Q1 Q2
      go_wp2
      first | go_end0 | refine bodyPost_ret (results_none rfl _ _ _) rfl ?_
      exact ⟨hb, by rw [← HZ.out, Bool.true_and]; exact HE.out⟩
    · have HE := hid (look_ok (lo := 1) (hi := 1) (e := gaveS) (.inr ⟨hno, rfl⟩))
      unfold gaveS at he
      subst he
      clear Q1 Q2 hno
      go_wp2
      exact ⟨rfl, hb, by rw [← HZ.out, Bool.true_and]; exact HE.out⟩

set_option maxHeartbeats 3200000 in
set_option maxRecDepth 100000 in
theorem route_any (p b : Nat) (s : ByteArray) (L : Lets) (m : Int) (w : World) (hs : s.size ≤ 1048576) (h : Looks w p b L m) :
    Calls Tryz.prog 148 #[.pointer (some ⟨p, 0, none⟩), .string s] w fun e w' => Below w.heap.size w w' ∧ e = okE ((cutL s.data.toList).2.2 && (roadB (cutL s.data.toList).1 && okT (matsL L (cutL s.data.toList).2.1) 1 1)) := by
  have hsl := size_len s
  have QC := hid (cut_any s m w (by omega) h.max)
  have hcl := cutL_len s.data.toList
  generalize cutL s.data.toList = C at *
  obtain ⟨nm, rs, ok⟩ := C
  dsimp only at hcl QC ⊢
  have Q2 := hid fun w1 (h1 : Looks w1 p b L m) => road_any p b nm (tx rs) L m w1 (by rw [← size_len]; show rs.length ≤ _; omega) h1
  have hq : matsL L (tx rs).data.toList = matsL L rs := rfl
  rw [hq] at Q2
  clear hq
  obtain ⟨z, hz⟩ : ∃ z, (roadB nm && okT (matsL L rs) 1 1) = z := ⟨_, rfl⟩
  rw [hz] at Q2 ⊢
  clear hz
  cases ok with
  | false =>
    go_enter Tryz.func148, Tryz.ntmps148
    go_wp2_with fail
    refine QC.out.mono ?_
    rintro e w1 ⟨rfl, hb1⟩
    clear QC Q2
    go_wp2
    exact ⟨rfl, hb1, rfl⟩
  | true =>
    rw [Bool.true_and]
    go_enter Tryz.func148, Tryz.ntmps148
    go_wp2_with fail
    refine QC.out.mono ?_
    rintro e w1 ⟨rfl, hb1⟩
    go_wp2_with fail
    refine (Q2.out _ (h.later hb1)).mono ?_
    rintro e w2 ⟨hb2, he⟩
    have hb := hb1.trans (hb2.mono hb1.size)
    cases z with
    | true =>
      have he : e = .returned (.tuple #[]) := he
      subst he
      clear QC Q2
      go_wp2
      first | go_end0 | refine bodyPost_ret (results_none rfl _ _ _) rfl ?_
      exact ⟨hb, rfl⟩
    | false =>
      have he : e = gaveS := he
      unfold gaveS at he
      subst he
      clear QC Q2
      go_wp2
      exact ⟨rfl, hb, rfl⟩
end Go.Proofs.YtinmoligjcajmaaGreatDoor
/- (*player).line: what is deferred. -/
namespace Go.Proofs.YtinmoligjcajmaaGreatDoor
open Go.RowKit Go.Vl

theorem assertS (W : World) (v : Value) : (Instr.typeAssert (.iface 166 v) 20 166 true).run Tryz.prog W = .ok (.tuple #[v, .bool true]) W := by kernel_rfl

set_option maxRecDepth 10000 in
theorem line1_panicking (p : Addr) (x : Value) (older : List PanicEntry) (w : World) (hc : w.cell? p = some x) (hz : w.frozen? p = false) (hb : p.block < w.heap.size) :
    CallsD Tryz.prog 93 #[.pointer (some p)] (.panicking ({ v := .iface 166 (.agg #[]), recovered := false } :: older)) w fun e u' w' =>
      e = .returned (.tuple #[]) ∧ u' = .panicking ({ v := .iface 166 (.agg #[]), recovered := true } :: older) ∧ w' = (w.alloc (.cells #[] 166)).setCell p (.bool false) := by
  have hk : (w.alloc (.cells #[] 166)).heap[p.block]? = w.heap[p.block]? := Below.heap_alloc _ _ _ hb
  have hc2 : (w.alloc (.cells #[] 166)).cell? p = some x := (World.cell?_of_block hk).trans hc
  have hz2 : (w.alloc (.cells #[] 166)).frozen? p = false := (World.frozen?_of_block hk).trans hz
  refine callsD_of_wpS Tryz.func93 rfl fun c₀ cs hu => ?_
  apply wpS_seq
  apply wpS_region
  simp [wpOpsS, go_sem, recoverD, hu, Tryz.ntmps93, Exit.thenS]
  apply wpS_seq
  apply wpS_region
  simp [wpOpsS, go_sem, Exit.thenS]
  refine wpS_cond (t := true) (by simp [Act.eval, Array.replicate]) ?_
  simp only [if_true]
  apply wpS_seq
  apply wpS_seq
  apply wpS_region
  simp [wpOpsS, go_sem, assertS, Exit.thenS]
  apply wpS_seq
  apply wpS_region
  simp [wpOpsS, go_sem, Exit.thenS]
  refine wpS_cond (t := false) (by simp [Act.eval, Array.replicate]) ?_
  simp only [Bool.false_eq_true, if_false]
  refine wpS_of_wp (wp_skip ?_)
  apply wpS_region
  simp [wpOpsS, go_sem, hc2, hz2, bodyPostS, results, Tryz.results93]

theorem line1_idle (p : Addr) (w : World) :
    CallsD Tryz.prog 93 #[.pointer (some p)] .returning w fun e u' w' => e = .returned (.tuple #[]) ∧ u' = .returning ∧ w' = w := by
  refine callsD_of_wpS Tryz.func93 rfl fun c₀ cs hu => ?_
  apply wpS_seq
  apply wpS_region
  simp [wpOpsS, go_sem, recoverD, hu, Tryz.ntmps93, Exit.thenS]
  apply wpS_seq
  apply wpS_region
  simp [wpOpsS, go_sem, Exit.thenS]
  refine wpS_cond (t := false) (by simp [Act.eval, Array.replicate]) ?_
  simp only [Bool.false_eq_true, if_false]
  refine wpS_of_wp (wp_skip ?_)
  cases c₀
  simp_all [bodyPostS, results, Tryz.results93]
end Go.Proofs.YtinmoligjcajmaaGreatDoor
/- (*player).line. -/
namespace Go.Proofs.YtinmoligjcajmaaGreatDoor
open Go.RowKit Go.Vl

/-- all stands as it stood, but for what lies at p and at b -/
structure Kept (w w' : World) (p b : Nat) : Prop where
  os : w'.os = w.os
  tape : w'.tape = w.tape
  output : w'.output = w.output
  size : w.heap.size ≤ w'.heap.size
  block : ∀ k, k < w.heap.size → k ≠ p → k ≠ b → w'.heap[k]? = w.heap[k]?
theorem Kept.trans {a w c : World} {p b : Nat} (h : Kept a w p b) (k : Kept w c p b) : Kept a c p b :=
  ⟨k.os.trans h.os, k.tape.trans h.tape, k.output.trans h.output, Nat.le_trans h.size k.size, fun i hi h1 h2 => (k.block i (Nat.lt_of_lt_of_le hi h.size) h1 h2).trans (h.block i hi h1 h2)⟩
theorem kept_grown {w w' : World} {p b : Nat} (h : w.grownBy w' (some b)) : Kept w w' p b :=
  ⟨h.os, h.tape, h.output, h.size, fun i hi _ h2 => h.block i hi fun e => h2 (Option.some.inj e)⟩
theorem kept_below {w w' : World} {p b : Nat} (h : Below w.heap.size w w') : Kept w w' p b :=
  ⟨h.os, h.tape, h.output, h.size, fun i hi _ _ => h.block i hi⟩
theorem kept_set {w w' : World} {p b : Nat} (h : Kept w w' p b) (q : Addr) (v : Value) (hq : q.block = p ∨ w.heap.size ≤ q.block) : Kept w (w'.setCell q v) p b :=
  ⟨h.os, h.tape, h.output, by simpa using h.size, fun i hi h1 h2 => by
    rw [Below.heap_setCell _ _ _ _ (by rcases hq with hq | hq <;> omega)]
    exact h.block i hi h1 h2⟩
theorem kept_alloc {w w' : World} {p b : Nat} (h : Kept w w' p b) (o : Obj) : Kept w (w'.alloc o) p b :=
  h.trans (kept_below ((Below.refl _ _).alloc (Nat.le_refl _) o))

/-- a player that looks at lines alone, whole -/
structure Plays (w : World) (p b : Nat) (L : Lets) (m : Int) (o : Value) : Prop where
  box : BoxIs w p 116 [.map (some b), .bool true, o]
  is : NamesIs w b L
  named : Named L
  max : w.cell? ⟨1, 0, none⟩ = some (.int .i64 m)
  one : 1 < w.heap.size
  pb : p ≠ b
  p1 : p ≠ 1
  b1 : b ≠ 1
theorem Plays.looks {w : World} {p b : Nat} {L : Lets} {m : Int} {o : Value} (h : Plays w p b L m o) : Looks w p b L m :=
  ⟨h.box.cell 0 _ rfl, h.box.cell 1 _ rfl, h.box.lt, h.is, h.named, h.max, h.one⟩
theorem Plays.later {w w' : World} {p b : Nat} {L : Lets} {m : Int} {o : Value} (h : Plays w p b L m o) (hb : Below w.heap.size w w') : Plays w' p b L m o :=
  ⟨h.box.later hb, h.is.later hb, h.named, cellB hb h.max (Nat.le_refl _), Nat.lt_of_lt_of_le h.one hb.size, h.pb, h.p1, h.b1⟩
theorem Plays.out {w : World} {p b : Nat} {L : Lets} {m : Int} {o : Value} (h : Plays w p b L m o) (v : Value) : Plays (w.setCell ⟨p, 2, none⟩ v) p b L m v :=
  ⟨h.box.set 2 v, h.is.keep (Below.heap_setCell _ _ _ _ (fun e => h.pb e.symm)), h.named, by rw [World.cell?_of_block (w := w) (Below.heap_setCell _ _ _ _ (fun e => h.p1 e.symm))]; exact h.max, by simpa using h.one, h.pb, h.p1, h.b1⟩
theorem Plays.grown {w w' : World} {p b : Nat} {L L' : Lets} {m : Int} {o : Value} (h : Plays w p b L m o) (hg : w.grownBy w' (some b)) (hn : NamesIs w' b L') (hL : Named L') : Plays w' p b L' m o :=
  ⟨h.box.keep (hg.block p h.box.lt fun e => h.pb (Option.some.inj e)), hn, hL, by rw [World.cell?_of_block (w := w) (hg.block 1 h.one fun e => h.b1 (Option.some.inj e).symm)]; exact h.max, Nat.lt_of_lt_of_le h.one hg.size, h.pb, h.p1, h.b1⟩

theorem Plays.far {w : World} {p b : Nat} {L : Lets} {m : Int} {o : Value} (h : Plays w p b L m o) {q : Addr} {v : Value} (h1 : p ≠ q.block) (h2 : b ≠ q.block) (h3 : 1 ≠ q.block) : Plays (w.setCell q v) p b L m o :=
  ⟨h.box.other q v h1, h.is.keep (Below.heap_setCell _ _ _ _ h2), h.named, by rw [World.cell?_of_block (w := w) (Below.heap_setCell _ _ _ _ h3)]; exact h.max, by simpa using h.one, h.pb, h.p1, h.b1⟩
def lineDs (w : World) : List Deferred := [{ target := Target.fn (Fn.func 93) #[.pointer (some ⟨w.heap.size, 0, none⟩)], args := #[] }]
theorem line_up {R : Ending → World → Prop} (tmps : Array Value) (w W : World) (h4 : tmps[4]?.getD undef = .pointer (some ⟨w.heap.size, 0, none⟩)) (x : Value) (hE : BoxIs W w.heap.size 4 [x])
    (hR : R (.returned (.bool false)) ((W.alloc (.cells #[] 166)).setCell ⟨w.heap.size, 0, none⟩ (.bool false))) :
    Leaves Tryz.prog Tryz.f50 tmps R (lineDs w) (.panicking [{ v := .iface 166 (.agg #[]), recovered := false }]) W := by
  unfold lineDs
  refine leaves_cons (f := 93) (args := #[.pointer (some ⟨w.heap.size, 0, none⟩)]) (by simp) (by simp [go_sem]) ?_
  refine (line1_panicking ⟨w.heap.size, 0, none⟩ x [] W hE.one.1 hE.one.2 hE.lt).mono ?_
  rintro e u' w'' ⟨rfl, rfl, hw⟩
  have hE2 : BoxIs w'' w.heap.size 4 [.bool false] := by
    rw [hw]
    exact (hE.alloc _).set 0 _
  rw [← hw] at hR
  have c0 := hE2.one.1
  clear hw
  simp [Leaves, settle, results, Tryz.results50, go_sem, h4, c0]
  exact hR
theorem line_back {R : Ending → World → Prop} (tmps : Array Value) (w W : World) (h4 : tmps[4]?.getD undef = .pointer (some ⟨w.heap.size, 0, none⟩)) (r : Bool) (hE : BoxIs W w.heap.size 4 [.bool r])
    (hR : R (.returned (.bool r)) W) :
    Leaves Tryz.prog Tryz.f50 tmps R (lineDs w) .returning W := by
  unfold lineDs
  refine leaves_cons (f := 93) (args := #[.pointer (some ⟨w.heap.size, 0, none⟩)]) (by simp) (by simp [go_sem]) ?_
  refine (line1_idle ⟨w.heap.size, 0, none⟩ W).mono ?_
  rintro e u' w'' ⟨rfl, rfl, rfl⟩
  have c0 := hE.one.1
  simp [Leaves, settle, results, Tryz.results50, go_sem, h4, c0]
  exact hR

/-- what a word does -/
def WordSay (p b : Nat) (f : Nat) (s : Tx) (L L' : Lets) (m : Int) (ok : Bool) : Prop :=
  ∀ w, Looks w p b L m → Calls Tryz.prog f #[.pointer (some ⟨p, 0, none⟩), .string (tx s)] w fun e w' => w.grownBy w' (some b) ∧ ((ok = true ∧ e = .returned (.tuple #[]) ∧ NamesIs w' b L') ∨ (ok = false ∧ e = gaveS ∧ NamesIs w' b L))

theorem nilF1 (f : Nat) (w : World) : (binOp .eql 169 (.func (.func f) #[] #[]) .nilFunc).run Tryz.prog w = .ok (.bool false) w := by kernel_rfl
theorem nilF0 (w : World) : (binOp .eql 169 .nilFunc .nilFunc).run Tryz.prog w = .ok (.bool true) w := by kernel_rfl

set_option maxHeartbeats 3200000 in
set_option maxRecDepth 100000 in
theorem line_none (p b : Nat) (s : ByteArray) (L : Lets) (m : Int) (o : Value) (w : World) (hs : s.size ≤ 1048576) (h : Plays w p b L m o)
    (hno : (cutL s.data.toList).2.2 = false ∨ fW (cutL s.data.toList).1 wordsA 0 = none) :
    Calls Tryz.prog 50 #[.pointer (some ⟨p, 0, none⟩), .string s] w fun e w' => Kept w w' p b ∧ e = .returned (.bool false) ∧ Plays w' p b L m o := by
  have hn1 := nilF1
  have hn0 := nilF0
  have hmf : ∀ (fn : Fn) (first cap : Array Value) (w : World), (Instr.makeFunc fn first cap).run Tryz.prog w = .ok (.func fn first cap) w := fun _ _ _ _ => rfl
  obtain ⟨hbA, bxA, hsz⟩ := boxA w #[.bool false] 4
  have hA := h.later hbA
  have QC := hid fun w1 (h1 : w1.cell? ⟨1, 0, none⟩ = some (.int .i64 m)) => cut_any s m w1 (by omega) h1
  have QW := hid words_any
  generalize cutL s.data.toList = C at *
  obtain ⟨wd, rs, more⟩ := C
  dsimp only at hno QC
  go_enter_defers Tryz.func50, Tryz.ntmps50
  go_wp2_with fail
  refine (QC.out _ hA.max).mono ?_
  rintro e w1 ⟨rfl, hb1⟩
  go_wp2_with fail
  refine (QW.out _).mono ?_
  rintro e w2 ⟨hb2, bw, rfl, hw2⟩
  have hb12 := (hbA.trans (hb1.mono hbA.size))
  have hb := hb12.trans (hb2.mono hb12.size)
  have bx2 := (bxA.later hb1).later hb2
  obtain ⟨c0, f0⟩ := bx2.one
  have hk : Kept w (w2.setCell ⟨w.heap.size, 0, none⟩ (.bool false)) p b := kept_set (kept_below hb) _ _ (.inr (Nat.le_refl _))
  have hP : Plays (w2.setCell ⟨w.heap.size, 0, none⟩ (.bool false)) p b L m o := h.later (hb.setCell (p := ⟨w.heap.size, 0, none⟩) (Nat.le_refl _) _)
  have hE := bx2.set 0 (.bool false)
  have fin := hid fun tmps h4 => line_back (R := fun e w' => Kept w w' p b ∧ e = .returned (.bool false) ∧ Plays w' p b L m o) tmps w _ h4 false hE ⟨hk, rfl, hP⟩
  clear QC QW hb1 hb2 hb12 hk hP hE bx2 bxA hA hbA hsz
  cases hF : fW wd wordsA 0 with
  | none =>
    go_wp2_with (at_lookup; refine wpl_wlook _ rfl _ _ rfl bw wordsA wd rfl hw2 rfl ?_; rw [hF])
    exact fin.out _ rfl
  | some q =>
    obtain rfl : more = false := by
      rcases hno with h | h
      · exact h
      · rw [hF] at h; cases h
    go_wp2_with (at_lookup; refine wpl_wlook _ rfl _ _ rfl bw wordsA wd rfl hw2 rfl ?_; rw [hF])
    exact fin.out _ rfl

set_option maxHeartbeats 3200000 in
set_option maxRecDepth 100000 in
theorem line_word (p b : Nat) (s : ByteArray) (L L' : Lets) (m : Int) (o : Value) (w : World) (hs : s.size ≤ 1048576) (h : Plays w p b L m o) (ok : Bool) (i f : Nat)
    (hmo : (cutL s.data.toList).2.2 = true) (hF : fW (cutL s.data.toList).1 wordsA 0 = some (i, f)) (hW : WordSay p b f (cutL s.data.toList).2.1 L L' m ok) (hL' : Named L') :
    Calls Tryz.prog 50 #[.pointer (some ⟨p, 0, none⟩), .string s] w fun e w' => Kept w w' p b ∧ e = .returned (.bool ok) ∧ ((ok = true ∧ Plays w' p b L' m (.slice none 0 0)) ∨ ok = false) := by
  have hn1 := nilF1
  have hn0 := nilF0
  have hmf : ∀ (fn : Fn) (first cap : Array Value) (w : World), (Instr.makeFunc fn first cap).run Tryz.prog w = .ok (.func fn first cap) w := fun _ _ _ _ => rfl
  obtain ⟨hbA, bxA, hsz⟩ := boxA w #[.bool false] 4
  have hA := h.later hbA
  have QC := hid fun w1 (h1 : w1.cell? ⟨1, 0, none⟩ = some (.int .i64 m)) => cut_any s m w1 (by omega) h1
  have QW := hid words_any
  generalize cutL s.data.toList = C at *
  obtain ⟨wd, rs, more⟩ := C
  dsimp only at hmo hF hW QC
  subst hmo
  have HWS := hid hW
  clear hW
  go_enter_defers Tryz.func50, Tryz.ntmps50
  go_wp2_with fail
  refine (QC.out _ hA.max).mono ?_
  rintro e w1 ⟨rfl, hb1⟩
  go_wp2_with fail
  refine (QW.out _).mono ?_
  rintro e w2 ⟨hb2, bw, rfl, hw2⟩
  have hb12 := (hbA.trans (hb1.mono hbA.size))
  have hb := hb12.trans (hb2.mono hb12.size)
  have bx2 := (bxA.later hb1).later hb2
  have hpl := (h.later hb)
  have hpo := hpl.out (.slice none 0 0)
  obtain ⟨p0, p1⟩ : w2.cell? ⟨p, 2, none⟩ = some o ∧ w2.frozen? ⟨p, 2, none⟩ = false := ⟨hpl.box.cell 2 _ rfl, hpl.box.frozen 2⟩
  have hkp : Kept w (w2.setCell ⟨p, 2, none⟩ (.slice none 0 0)) p b := kept_set (kept_below hb) _ _ (.inl rfl)
  have hlt := h.box.lt
  have HNB : Hid (b ≠ w.heap.size) := hid (by have := h.is.lt; omega)
  have bx3 := bx2.other ⟨p, 2, none⟩ (.slice none 0 0) (by show w.heap.size ≠ p; omega)
  clear QC QW hb1 hb2 hb12 bx2 bxA hA hbA hsz hpl
  go_wp2_with (first | (at_lookup; refine wpl_wlook _ rfl _ _ rfl bw wordsA wd rfl hw2 rfl ?_; rw [hF]) | fail)
  have QF := hid (HWS.out _ hpo.looks)
  have HKP := hid hkp
  have HPO := hid hpo
  obtain ⟨c0, f0⟩ := bx3.one
  have HB3 := hid bx3
  clear HWS hkp hpo bx3
  have hf : f ∈ wordsA.map (·.2) := by
    have : ∀ (A : WdA) (k : Nat), fW wd A k = some (i, f) → f ∈ A.map (·.2) := by
      intro A
      induction A with
      | nil => intro k h; cases h
      | cons x A ih =>
        intro k h
        unfold fW at h
        split at h
        · simp only [Option.some.injEq, Prod.mk.injEq] at h
          rw [← h.2]
          exact List.mem_cons_self
        · exact List.mem_cons_of_mem _ (ih _ h)
    exact this _ _ hF
  simp only [wordsA, List.map_cons, List.map_nil, List.mem_cons, List.not_mem_nil, or_false] at hf
  clear hF
  rcases hf with rfl | rfl | rfl | rfl | rfl | rfl | rfl | rfl | rfl | rfl | rfl
  all_goals (
    go_wp2_with fail
    refine QF.out.mono ?_
    rintro e w3 ⟨hg3, hq⟩
    have bx4 := HB3.out.keep (hg3.block _ HB3.out.lt (fun e => HNB.out (Option.some.inj e).symm))
    obtain ⟨c1, f1⟩ := bx4.one
    have hk4 := HKP.out.trans (kept_grown hg3)
    rcases hq with ⟨hok, rfl, hn4⟩ | ⟨hok, he, hn4⟩
    · have hp4 := HPO.out.grown hg3 hn4 hL'
      have fin := hid fun tmps h4 => line_back (R := fun e w' => Kept w w' p b ∧ e = .returned (.bool ok) ∧ ((ok = true ∧ Plays w' p b L' m (.slice none 0 0)) ∨ ok = false)) tmps w (w3.setCell ⟨w.heap.size, 0, none⟩ (.bool true)) h4 true (bx4.set 0 _) ⟨kept_set hk4 _ _ (.inr (Nat.le_refl _)), by rw [hok], .inl ⟨hok, hp4.far (by have := h.box.lt; show p ≠ w.heap.size; omega) HNB.out (by have := h.one; show 1 ≠ w.heap.size; omega)⟩⟩
      clear QF hg3 hk4 hp4 bx4 hok
      go_wp2
      exact fin.out _ rfl
    · unfold gaveS at he
      subst he
      have fin := hid fun tmps h4 => line_up (R := fun e w' => Kept w w' p b ∧ e = .returned (.bool ok) ∧ ((ok = true ∧ Plays w' p b L' m (.slice none 0 0)) ∨ ok = false)) tmps w w3 h4 _ bx4 ⟨kept_set (kept_alloc hk4 _) _ _ (.inr (Nat.le_refl _)), by rw [hok], .inr hok⟩
      clear QF hg3 hk4 bx4 hok
      go_wp2
      exact fin.out _ rfl)
end Go.Proofs.YtinmoligjcajmaaGreatDoor
