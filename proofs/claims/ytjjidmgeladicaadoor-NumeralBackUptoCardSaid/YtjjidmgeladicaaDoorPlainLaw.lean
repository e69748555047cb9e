/- The plain law: what a row's text says, by its runes; and that a plain text says the same. No condition. -/
import Derived.Test.YtjjidmgeladicaaDoorUtf
namespace Go.Proofs.YtjjidmgeladicaaDoor

/-! ### a row by its runes -/

def flushR (fr : Option (List Nat)) : List (List Nat × Bool) := match fr with | none => [] | some u => [(u, false)]

def pcsR : Option (List Nat) → List Nat → List (List Nat × Bool)
  | fr, [] => flushR fr
  | fr, r :: L => if kindOf r = 4 then flushR fr ++ pcsR none L else if kindOf r = 5 then flushR fr ++ ([], true) :: pcsR none L else pcsR (some (fr.getD [] ++ [r])) L

def rowGoR : Bool → List (Bool × List Nat × Bool × List Nat) → List (List Nat × Bool) → List (Bool × List Nat × Bool × List Nat) × Nat × Nat
  | _, out, [] => (out, 0, 0)
  | bad, out, (_, true) :: rest => if bad = true ∨ rest = [] then ([], out.length + 1, 21) else rowGoR true out rest
  | _, out, (u, false) :: rest => if (fracR u).2.2.2 ≠ 0 then ([], out.length + 1, (fracR u).2.2.2) else rowGoR false (out ++ [fracL (fracR u)]) rest

/-- what a row's runes say -/
def rowR (L : List Nat) : List (Bool × List Nat × Bool × List Nat) × Nat × Nat := rowGoR true [] (pcsR none L)

def byRunes (x : ByteArray × Bool) : List Nat × Bool := (runesOf x.1, x.2)

theorem rowGo_R : ∀ (P : List (ByteArray × Bool)) (bad : Bool) (out : List (Bool × List Nat × Bool × List Nat)), rowGo bad out P = rowGoR bad out (P.map byRunes)
  | [], bad, out => by rw [rowGo, List.map_nil, rowGoR]
  | (wd, true) :: P, bad, out => by
    rw [rowGo, List.map_cons, show byRunes (wd, true) = (runesOf wd, true) from rfl, rowGoR, rowGo_R P]
    simp
  | (wd, false) :: P, bad, out => by
    rw [rowGo, List.map_cons, show byRunes (wd, false) = (runesOf wd, false) from rfl, rowGoR, rowGo_R P]

theorem extract_B (s : ByteArray) (a i : Nat) : (s.extract a i).data.toList = (s.data.toList.drop a).take (i - a) := by
  rw [ByteArray.data_extract]
  simp [Array.toList_extract]

theorem flush_R (s : ByteArray) (fr : Option Nat) (i : Nat) : (flush s fr i).map byRunes = flushR (fr.map fun a => runesB ((s.data.toList.drop a).take (i - a))) := by
  cases fr with
  | none => rfl
  | some a =>
    simp only [flush, flushR, List.map_cons, List.map_nil, Option.map_some, byRunes]
    rw [runesOf_B, extract_B]

theorem pcs_R (s : ByteArray) : ∀ (n pos : Nat) (fr : Option Nat), s.size - pos = n → pos ≤ s.size → (∀ a, fr = some a → a ≤ pos ∧ Bd (s.data.toList.drop a) (pos - a)) →
    (pcs s fr (placesAt s pos)).map byRunes = pcsR (fr.map fun a => runesB ((s.data.toList.drop a).take (pos - a))) (runesAt s pos) := by
  intro n
  have hsz : s.data.toList.length = s.size := by rw [Array.length_toList]; rfl
  induction n using Nat.strongRecOn with
  | ind n ih =>
    intro pos fr hn hp hfr
    by_cases h : pos < s.size
    · have hw := decode_width s pos
      have hne : s.data.toList.drop pos ≠ [] := by intro e; have := List.drop_eq_nil_iff.1 e; omega
      have hle := Lib.decodeL_le _ hne
      rw [Lib.decodeL_drop, List.length_drop, hsz] at hle
      rw [placesAt_step s pos h, runesAt_step s pos h, pcs, pcsR]
      obtain ⟨wd, hwd⟩ : ∃ wd, (Utf8.decode s pos).2 = wd := ⟨_, rfl⟩
      obtain ⟨r, hr⟩ : ∃ r, (Utf8.decode s pos).1 = r := ⟨_, rfl⟩
      rw [hwd] at hw hle ⊢
      rw [hr]
      have ihn := ih (s.size - (pos + wd)) (by omega) (pos + wd) none rfl (by omega) (by simp)
      rw [Option.map_none] at ihn
      split
      · rw [List.map_append, ihn, flush_R]
      · split
        · rw [List.map_append, List.map_cons, ihn, flush_R]
          rfl
        · have hb : ∀ a, some (fr.getD pos) = some a → a ≤ pos + wd ∧ Bd (s.data.toList.drop a) (pos + wd - a) := by
            intro a ha
            simp only [Option.some.injEq] at ha
            cases fr with
            | none =>
              simp only [Option.getD_none] at ha
              subst ha
              refine ⟨by omega, ?_⟩
              have := Bd.step hne (Bd.zero _)
              rw [Lib.decodeL_drop, hwd] at this
              rw [Nat.add_sub_cancel_left]
              exact this
            | some b =>
              simp only [Option.getD_some] at ha
              subst ha
              obtain ⟨h1, h2⟩ := hfr b rfl
              refine ⟨by omega, ?_⟩
              have hd : (s.data.toList.drop b).drop (pos - b) = s.data.toList.drop pos := by rw [List.drop_drop, Nat.add_sub_cancel' h1]
              have := h2.snoc (by rw [hd]; exact hne)
              rw [hd, Lib.decodeL_drop, hwd] at this
              rwa [show pos + wd - b = pos - b + wd by omega]
          rw [ih (s.size - (pos + wd)) (by omega) (pos + wd) (some (fr.getD pos)) rfl (by omega) hb]
          congr 1
          rw [Option.map_some]
          congr 1
          have hone : runesB ((s.data.toList.drop pos).take wd) = [r] := by
            have h1 := (Bd.step hne (Bd.zero _)).split
            rw [Lib.decodeL_drop, hwd, Nat.add_zero, runesB_step _ hne, Lib.decodeL_drop, hwd, hr] at h1
            have h2 : [r] ++ runesB ((s.data.toList.drop pos).drop wd) = runesB ((s.data.toList.drop pos).take wd) ++ runesB ((s.data.toList.drop pos).drop wd) := h1
            exact (List.append_cancel_right h2).symm
          cases fr with
          | none =>
            simp only [Option.getD_none, Option.map_none, List.nil_append, Nat.add_sub_cancel_left]
            exact hone
          | some b =>
            obtain ⟨h1, h2⟩ := hfr b rfl
            have hd : (s.data.toList.drop b).drop (pos - b) = s.data.toList.drop pos := by rw [List.drop_drop, Nat.add_sub_cancel' h1]
            simp only [Option.getD_some, Option.map_some]
            have h3 := (h2.snoc (by rw [hd]; exact hne))
            have h4 := h2.split
            have h5 := h3.split
            rw [hd, Lib.decodeL_drop, hwd] at h5
            rw [hd] at h4
            rw [show pos + wd - b = pos - b + wd by omega]
            have h6 : runesB (s.data.toList.drop pos) = r :: runesB ((s.data.toList.drop b).drop (pos - b + wd)) := by
              rw [runesB_step _ hne, Lib.decodeL_drop, hwd, hr, List.drop_drop, List.drop_drop, show b + (pos - b + wd) = pos + wd by omega]
            rw [h6] at h4
            rw [h4] at h5
            have h7 : runesB ((s.data.toList.drop b).take (pos - b)) ++ [r] ++ runesB ((s.data.toList.drop b).drop (pos - b + wd)) = runesB ((s.data.toList.drop b).take (pos - b + wd)) ++ runesB ((s.data.toList.drop b).drop (pos - b + wd)) := by
              rw [← h5]; simp
            exact (List.append_cancel_right h7).symm
    · have hpe : pos = s.size := by omega
      rw [placesAt_end s pos h, runesAt_end s pos h, pcs, pcsR, flush_R, hpe]

theorem rowOf_R (s : ByteArray) : rowOf s = rowR (runesOf s) := by
  unfold rowOf rowR piecesOf
  rw [rowGo_R, pcs_R s _ 0 none rfl (Nat.zero_le _) (by simp)]
  rfl

/-! ### a plain text says the same -/

theorem plain_minus (r : Nat) : isMinus (plainR r) = isMinus r := by
  unfold plainR
  by_cases h : isMinus r = true
  · rw [if_pos h, h]; rfl
  · rw [if_neg h]
    have h' : isMinus r = false := by simpa using h
    by_cases h2 : isBar r = true
    · rw [if_pos h2, h']; rfl
    · rw [if_neg h2]
      by_cases h3 : isGap r = true
      · rw [if_pos h3, h']; rfl
      · rw [if_neg h3]

theorem plain_bar (r : Nat) : isBar (plainR r) = isBar r := by
  unfold plainR
  by_cases h : isMinus r = true
  · rw [if_pos h, minus_bar_no r h]; rfl
  · rw [if_neg h]
    by_cases h2 : isBar r = true
    · rw [if_pos h2, h2]; rfl
    · rw [if_neg h2]
      have h2' : isBar r = false := by simpa using h2
      by_cases h3 : isGap r = true
      · rw [if_pos h3, h2']; rfl
      · rw [if_neg h3]

theorem plain_cases (r : Nat) : plainR r = r ∨ (plainR r = 45 ∧ isMinus r = true) ∨ (plainR r = 47 ∧ isBar r = true) ∨ (plainR r = 32 ∧ isGap r = true) := by
  unfold plainR
  by_cases h : isMinus r = true
  · exact .inr (.inl ⟨by rw [if_pos h], h⟩)
  · rw [if_neg h]
    by_cases h2 : isBar r = true
    · exact .inr (.inr (.inl ⟨by rw [if_pos h2], h2⟩))
    · rw [if_neg h2]
      by_cases h3 : isGap r = true
      · exact .inr (.inr (.inr ⟨by rw [if_pos h3], h3⟩))
      · exact .inl (by rw [if_neg h3])

theorem special (r : Nat) (h : isMinus r = true ∨ isBar r = true ∨ isGap r = true) : worth r = 99 ∧ r ≠ 48 := by
  unfold isMinus isBar isGap at h
  simp only [Bool.or_eq_true, beq_iff_eq] at h
  rcases h with (rfl | rfl) | ((rfl | rfl) | rfl) | (((rfl | rfl) | rfl) | rfl) <;> decide

theorem plain_worth (r : Nat) : worth (plainR r) = worth r := by
  rcases plain_cases r with h | ⟨h, h2⟩ | ⟨h, h2⟩ | ⟨h, h2⟩
  · rw [h]
  · rw [h, (special r (.inl h2)).1]; rfl
  · rw [h, (special r (.inr (.inl h2))).1]; rfl
  · rw [h, (special r (.inr (.inr h2))).1]; rfl

theorem plain_48 (r : Nat) : (plainR r == 48) = (r == 48) := by
  rcases plain_cases r with h | ⟨h, h2⟩ | ⟨h, h2⟩ | ⟨h, h2⟩
  · rw [h]
  · rw [h]; have := (special r (.inl h2)).2; simp [this]
  · rw [h]; have := (special r (.inr (.inl h2))).2; simp [this]
  · rw [h]; have := (special r (.inr (.inr h2))).2; simp [this]

theorem plain_kind (r : Nat) : kindOf (plainR r) = kindOf r := by
  have h := plainR_kind r
  by_cases h2 : kindOf r = 2
  · rw [if_pos h2] at h; rw [h, h2]; rfl
  · rw [if_neg h2] at h
    by_cases h3 : kindOf r = 3
    · rw [if_pos h3] at h; rw [h, h3]; rfl
    · rw [if_neg h3] at h
      by_cases h4 : kindOf r = 4
      · rw [if_pos h4] at h; rw [h, h4]; rfl
      · rw [if_neg h4] at h; rw [h]

theorem plain_plain (r : Nat) : plainR (plainR r) = plainR r := by
  rcases plain_cases r with h | ⟨h, _⟩ | ⟨h, _⟩ | ⟨h, _⟩
  · rw [h, h]
  all_goals (rw [h]; rfl)

theorem plain_valid (L : List Nat) (h : Valid L) : Valid (L.map plainR) := by
  intro r hr
  obtain ⟨x, hx, rfl⟩ := List.mem_map.1 hr
  rcases plain_cases x with h1 | ⟨h1, _⟩ | ⟨h1, _⟩ | ⟨h1, _⟩
  · rw [h1]; exact h x hx
  all_goals (rw [h1]; rfl)

theorem negative_plain (L : List Nat) : negative (L.map plainR) = negative L := by
  cases L with
  | nil => rfl
  | cons r L => exact plain_minus r

theorem worths_plain (L : List Nat) : (L.map plainR).map worth = L.map worth := by
  rw [List.map_map]
  congr 1
  funext r
  exact plain_worth r

theorem all_plain (b : Nat) (L : List Nat) : (L.map plainR).all (fun r => decide (worth r < b)) = L.all (fun r => decide (worth r < b)) := by
  rw [List.all_map]
  congr 1
  funext r
  simp [plain_worth]

theorem body_plain (L : List Nat) : (if negative (L.map plainR) then (L.map plainR).tail else L.map plainR) = (if negative L then L.tail else L).map plainR := by
  rw [negative_plain]
  split
  · simp
  · rfl

def parseU (b : Nat) (ng : Bool) (U : List Nat) : Bool × Nat × Nat :=
  if U.isEmpty || !(U.all fun r => decide (worth r < b)) then (false, 0, 20) else if 10000 < U.length then (false, 0, 4) else (ng && decide (ofDigits b (U.map worth) ≠ 0), ofDigits b (U.map worth), 0)

theorem parseB_U (b : Nat) (L : List Nat) : parseB b L = parseU b (negative L) (if negative L then L.tail else L) := rfl

theorem parseB_plain (b : Nat) (L : List Nat) : parseB b (L.map plainR) = parseB b L := by
  rw [parseB_U, parseB_U, body_plain, negative_plain]
  unfold parseU
  simp only [all_plain, worths_plain, List.length_map, List.isEmpty_map]

theorem upper_plain (L : List Nat) : upper (L.map plainR) = (upper L).map plainR := by
  unfold upper
  rw [List.takeWhile_map]
  congr 2
  funext r
  simp [notBar, plain_bar]

theorem lower_plain (L : List Nat) : lower (L.map plainR) = (lower L).map plainR := by
  unfold lower
  rw [upper_plain, List.length_map, List.length_map]
  split
  · rw [List.map_drop]
  · rfl

theorem upS_plain (L : List Nat) : upS (L.map plainR) = (upS L).map plainR := by
  unfold upS
  rw [upper_plain, body_plain]

theorem badB_plain (L : List Nat) : badB (L.map plainR) = badB L := by
  unfold badB
  rw [all_plain, List.isEmpty_map]

theorem nought_plain (L : List Nat) : allNought (L.map plainR) = allNought L := by
  unfold allNought
  rw [List.all_map]
  congr 1
  funext r
  exact plain_48 r

theorem fracR_plain (L : List Nat) : fracR (L.map plainR) = fracR L := by
  have hn : negative (upper (L.map plainR)) = negative (upper L) := by rw [upper_plain, negative_plain]
  have hd : digN (L.map plainR) = digN L := by
    unfold digN
    rw [upS_plain, upper_plain, lower_plain]
    simp only [List.length_map]
  unfold fracR
  rw [upS_plain, lower_plain, badB_plain, badB_plain, nought_plain, hd, hn, worths_plain, worths_plain]

def plainP (x : List Nat × Bool) : List Nat × Bool := (x.1.map plainR, x.2)

theorem flushR_plain (fr : Option (List Nat)) : flushR (fr.map (List.map plainR)) = (flushR fr).map plainP := by cases fr <;> rfl

theorem pcsR_plain : ∀ (L : List Nat) (fr : Option (List Nat)), pcsR (fr.map (List.map plainR)) (L.map plainR) = (pcsR fr L).map plainP
  | [], fr => by rw [List.map_nil, pcsR, pcsR, flushR_plain]
  | r :: L, fr => by
    have h0 := pcsR_plain L none
    have h1 := pcsR_plain L (some (fr.getD [] ++ [r]))
    rw [Option.map_none] at h0
    rw [List.map_cons, pcsR, pcsR, plain_kind, flushR_plain, h0]
    split
    · rw [List.map_append]
    · split
      · rw [List.map_append, List.map_cons]; rfl
      · rw [← h1]
        congr 1
        cases fr <;> simp

theorem rowGoR_plain : ∀ (P : List (List Nat × Bool)) (bad : Bool) (out : List (Bool × List Nat × Bool × List Nat)), rowGoR bad out (P.map plainP) = rowGoR bad out P
  | [], _, _ => by rw [List.map_nil]
  | (u, true) :: P, bad, out => by
    rw [List.map_cons, show plainP (u, true) = (u.map plainR, true) from rfl, rowGoR, rowGoR, rowGoR_plain P]
    simp
  | (u, false) :: P, bad, out => by
    rw [List.map_cons, show plainP (u, false) = (u.map plainR, false) from rfl, rowGoR, rowGoR, fracR_plain, rowGoR_plain P]

theorem rowR_plain (L : List Nat) : rowR (L.map plainR) = rowR L := by
  unfold rowR
  rw [← rowGoR_plain (pcsR none L)]
  congr 1
  exact pcsR_plain L none

/-- the plain text's runes -/
theorem runes_plain (s : ByteArray) : runesOf (txt ((runesOf s).map plainR)) = (runesOf s).map plainR := runesOf_txt _ (plain_valid _ (runesOf_valid s))
end Go.Proofs.YtjjidmgeladicaaDoor
