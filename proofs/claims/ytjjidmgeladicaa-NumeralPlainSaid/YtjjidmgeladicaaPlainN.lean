/- The law similelaw02.NumeralPlain returns true and leaves all as it was. -/
import Derived.Test.YtjjidmgeladicaaRowsEq
import Derived.Test.YtjjidmgeladicaaReads
namespace Go.Proofs.Ytjjidmgeladicaa
open Go.ChangeShapes Go.WideShapes Go.ChangeAt Go.RowKit

/-- limbs' lengths of the numbers of a row -/
theorem rowGoR_len (n : Nat) (hn : n ≤ 1000000000) : ∀ (P : List (List Nat × Bool)) (bad : Bool) (out : List (Bool × List Nat × Bool × List Nat)), (∀ x, x ∈ P → x.1.length ≤ n) →
    (∀ x, x ∈ out → x.2.1.length ≤ 1000000001 ∧ x.2.2.2.length ≤ 1000000001) → (∀ x, x ∈ (rowGoR bad out P).1 → x.2.1.length ≤ 1000000001 ∧ x.2.2.2.length ≤ 1000000001) ∧ (rowGoR bad out P).1.length ≤ out.length + P.length
  | [], bad, out, _, ho => by rw [rowGoR]; exact ⟨ho, by simp⟩
  | (u, true) :: P, bad, out, hp, ho => by
    rw [rowGoR]
    split
    · exact ⟨by simp, by simp⟩
    · have := rowGoR_len n hn P true out (fun x hx => hp x (List.mem_cons_of_mem _ hx)) ho
      exact ⟨this.1, by simp only [List.length_cons]; omega⟩
  | (u, false) :: P, bad, out, hp, ho => by
    rw [rowGoR]
    split
    · exact ⟨by simp, by simp⟩
    · have hu := hp (u, false) (List.mem_cons_self ..)
      have h1 := fracR_len u
      have := rowGoR_len n hn P false (out ++ [fracL (fracR u)]) (fun x hx => hp x (List.mem_cons_of_mem _ hx)) (by
        intro x hx
        rcases List.mem_append.1 hx with h | h
        · exact ho x h
        · simp only [List.mem_singleton] at h
          subst h
          dsimp only at hu
          exact ⟨Nat.le_trans h1.1 (by omega), Nat.le_trans h1.2 (by omega)⟩)
      refine ⟨this.1, ?_⟩
      have h2 := this.2
      rw [List.length_append] at h2
      simp only [List.length_cons, List.length_nil] at h2 ⊢
      omega

theorem pcsR_bd : ∀ (L : List Nat) (fr : Option (List Nat)), (∀ x, x ∈ pcsR fr L → x.1.length ≤ (fr.getD []).length + L.length) ∧ (pcsR fr L).length ≤ 2 * L.length + 1
  | [], fr => by
    rw [pcsR]
    cases fr with
    | none => simp [flushR]
    | some u => simp [flushR]
  | r :: L, fr => by
    have h0 := pcsR_bd L none
    have h1 := pcsR_bd L (some (fr.getD [] ++ [r]))
    have hf : ∀ x, x ∈ flushR fr → x.1.length ≤ (fr.getD []).length := by
      intro x hx
      cases fr with
      | none => simp [flushR] at hx
      | some u => simp only [flushR, List.mem_singleton] at hx; rw [hx]; simp
    have hfl : (flushR fr).length ≤ 1 := by cases fr <;> simp [flushR]
    simp only [Option.getD_none, List.length_nil, Option.getD_some, List.length_append, List.length_cons] at h0 h1
    rw [pcsR]
    split
    · refine ⟨?_, by simp only [List.length_append, List.length_cons]; omega⟩
      intro x hx
      rcases List.mem_append.1 hx with h | h
      · have := hf x h; omega
      · have := h0.1 x h; simp only [List.length_cons]; omega
    · split
      · refine ⟨?_, by simp only [List.length_append, List.length_cons]; omega⟩
        intro x hx
        rcases List.mem_append.1 hx with h | h
        · have := hf x h; omega
        · rcases List.mem_cons.1 h with h | h
          · rw [h]; simp
          · have := h0.1 x h; simp only [List.length_cons]; omega
      · refine ⟨?_, by simp only [List.length_cons]; omega⟩
        intro x hx
        have := h1.1 x hx
        simp only [List.length_cons]
        omega

theorem rowR_len (L : List Nat) (hL : L.length ≤ 400000000) : (∀ x, x ∈ (rowR L).1 → x.2.1.length ≤ 1000000001 ∧ x.2.2.2.length ≤ 1000000001) ∧ (rowR L).1.length ≤ 1000000000 := by
  obtain ⟨h1, h2⟩ := pcsR_bd L none
  have := rowGoR_len L.length (by omega) (pcsR none L) true [] (fun x hx => by have := h1 x hx; simpa using this) (by simp)
  refine ⟨this.1, ?_⟩
  have h3 := this.2
  simp only [List.length_nil] at h3
  unfold rowR
  omega

theorem txt_size (L : List Nat) : (txt L).size ≤ 4 * L.length := encB_len L

theorem rowTold (s : ByteArray) (w : World) (hs : s.size ≤ 400000000) (X : List (Bool × List Nat × Bool × List Nat)) (n c : Nat) (hx : rowR (runesOf s) = (X, n, c)) :
    Calls Try.prog 25 #[.string s] w fun e w' => Below w.heap.size w w' ∧ ∃ ad cap, e = .returned (.tuple #[.slice ad X.length cap, .int .i64 (n : Nat), .int .i64 (c : Nat)]) ∧ Fracs w.heap.size w'.heap.size w' (.slice ad X.length cap) X := by
  refine (row_any s w hs).mono ?_
  rintro e w' ⟨hb, h⟩
  rw [rowOf_R, hx] at h
  obtain ⟨r, rfl, hr⟩ := h
  obtain ⟨ad, cap, rfl⟩ := RowOf.shape hr
  exact ⟨hb, _, _, rfl, hr⟩

set_option maxRecDepth 100000 in
set_option maxHeartbeats 6400000 in
theorem plain_walk (s : ByteArray) (w : World) :
    Calls Try.prog 6 #[.string s] w fun e w' => e = .returned (.bool true) ∧ Below w.heap.size w w' := by
  have QA := hid fun w => awake_any w
  by_cases hs : 65536 < s.size
  · have Q0 := hid fun w => long_yes s w hs
    go_enter Try.func6, Try.ntmps6
    go_wp2_with fail
    refine (Q0.out _).mono ?_
    rintro e w' ⟨rfl, rfl⟩
    go_wp2_with fail
    refine (QA.out _).mono ?_
    rintro e w1 ⟨rfl, hb1⟩
    go_wp2
    go_ret
    exact ⟨rfl, hb1⟩
  · have Q0 := hid fun w => long_no s w (by omega)
    have hrl := runesAt_len s 0
    have hrs : (runesOf s).length ≤ 65536 := by unfold runesOf; omega
    obtain ⟨p, hp⟩ : ∃ p, txt ((runesOf s).map plainR) = p := ⟨_, rfl⟩
    have hps : p.size ≤ 262144 := by
      rw [← hp]
      have := txt_size ((runesOf s).map plainR)
      rw [List.length_map] at this
      omega
    have hrp : runesOf p = (runesOf s).map plainR := by rw [← hp]; exact runes_plain s
    have Q1 := hid fun w => plain_any s w (by omega)
    rw [hp] at Q1
    have Q1' : Hid (∀ w, Calls Try.prog 17 #[.string p] w fun e w' => Below w.heap.size w w' ∧ e = .returned (.string p)) := by
      intro w
      have h := plain_any p w (by omega)
      rw [hrp, List.map_map, show plainR ∘ plainR = plainR from funext plain_plain, hp] at h
      exact h
    obtain ⟨⟨ng, N, cd⟩, hx⟩ : ∃ x, parseB 10 (runesOf s) = x := ⟨_, rfl⟩
    obtain ⟨⟨mg, A, B, ce⟩, hy⟩ : ∃ x, fracR (runesOf s) = x := ⟨_, rfl⟩
    obtain ⟨⟨X, nn, cf⟩, hz⟩ : ∃ x, rowR (runesOf s) = x := ⟨_, rfl⟩
    have hx' : parseB 10 (runesOf p) = (ng, N, cd) := by rw [hrp, parseB_plain, hx]
    have hy' : fracR (runesOf p) = (mg, A, B, ce) := by rw [hrp, fracR_plain, hy]
    have hz' : rowR (runesOf p) = (X, nn, cf) := by rw [hrp, rowR_plain, hz]
    have hl1 := parseB_len 10 (runesOf s) (by decide)
    have hl2 := fracR_len (runesOf s)
    have hl4 := rowR_len (runesOf s) (by omega)
    rw [hx] at hl1
    rw [hy] at hl2
    rw [hz] at hl4
    dsimp only at hl1 hl2 hl4
    have Q2 := hid fun w => readsIntB s w (by omega) ng N cd hx
    have Q2' := hid fun w => readsIntB p w (by omega) ng N cd hx'
    have Q3 := hid fun w => readsFracB s w (by omega) mg A B ce hy
    have Q3' := hid fun w => readsFracB p w (by omega) mg A B ce hy'
    have Q4 := hid fun w => rowTold s w (by omega) X nn cf hz
    have Q4' := hid fun w => rowTold p w (by omega) X nn cf hz'
    obtain ⟨xs, hxs⟩ : ∃ xs, toL N = xs := ⟨_, rfl⟩
    obtain ⟨us, hus⟩ : ∃ us, toL A = us := ⟨_, rfl⟩
    obtain ⟨bs, hbs⟩ : ∃ bs, toL B = bs := ⟨_, rfl⟩
    rw [hxs] at hl1 Q2 Q2'
    unfold FracTold at Q3 Q3'
    rw [hus, hbs] at Q3 Q3'
    rw [hus, hbs] at hl2
    have HL1 := hid hl1
    have HL2 := hid hl2
    have HL4 := hid hl4
    have HRS := hid hrs
    clear hx hy hz hx' hy' hz' hp hps hrp hxs hus hbs hrl hrs hs hl1 hl2 hl4
    go_enter Try.func6, Try.ntmps6
    go_wp2_with fail
    refine (Q0.out _).mono ?_
    rintro e w' ⟨rfl, rfl⟩
    go_wp2_with fail
    refine (Q1.out _).mono ?_
    rintro e w0 ⟨a0, rfl⟩
    have A0 := hid a0
    clear a0 Q1 Q0
    go_wp2_with fail
    refine (Q2.out _).mono ?_
    rintro e w1 ⟨a1, ad1, cap1, rfl, x1⟩
    obtain ⟨_, l1, b1, s1⟩ := boxed a1 a1.size #[.bool ng, .slice ad1 xs.length cap1] 29
    have X1 := hid (x1.below l1 (Nat.le_refl _))
    have D1 := hid (chain a1 l1)
    have B1 := hid b1
    have S1 := hid s1
    clear a1 l1 b1 s1 x1 Q2
    go_wp2_with fail
    refine (Q2'.out _).mono ?_
    rintro e w2 ⟨a1, ad2, cap2, rfl, x1⟩
    obtain ⟨_, l1, b1, s1⟩ := boxed a1 a1.size #[.bool ng, .slice ad2 xs.length cap2] 29
    have X2 := hid (x1.below l1 (Nat.le_refl _))
    have D2 := hid (chain a1 l1)
    have B2 := hid b1
    have S2 := hid s1
    clear a1 l1 b1 s1 x1 Q2'
    go_wp2_with fail
    refine (Q3.out _).mono ?_
    rintro e w4 ⟨a1, ad4, cap4, ae4, cbp4, rfl, x1, y1⟩
    obtain ⟨_, l1, b1, s1⟩ := boxed a1 a1.size #[.bool mg, .slice ad4 us.length cap4, .bool false, .slice ae4 bs.length cbp4] 35
    have X4 := hid (x1.below l1 (Nat.le_refl _))
    have Y4 := hid (y1.below l1 (Nat.le_refl _))
    have D4 := hid (chain a1 l1)
    have B4 := hid b1
    have S4 := hid s1
    clear a1 l1 b1 s1 x1 y1 Q3
    go_wp2_with fail
    refine (Q3'.out _).mono ?_
    rintro e w5 ⟨a1, ad5, cap5, ae5, cbp5, rfl, x1, y1⟩
    obtain ⟨_, l1, b1, s1⟩ := boxed a1 a1.size #[.bool mg, .slice ad5 us.length cap5, .bool false, .slice ae5 bs.length cbp5] 35
    have X5 := hid (x1.below l1 (Nat.le_refl _))
    have Y5 := hid (y1.below l1 (Nat.le_refl _))
    have D5 := hid (chain a1 l1)
    have B5 := hid b1
    have S5 := hid s1
    clear a1 l1 b1 s1 x1 y1 Q3'
    go_wp2_with fail
    refine (Q4.out _).mono ?_
    rintro e w6 ⟨a1, ad6, cap6, rfl, x1⟩
    have D6 := hid a1
    have X6 := hid x1
    clear a1 x1 Q4
    go_wp2_with fail
    refine (Q4'.out _).mono ?_
    rintro e w7 ⟨a1, ad7, cap7, rfl, x1⟩
    have X7 := hid x1
    have E6 := a1
    have E5 := chain D6.out E6
    have E4 := chain D5.out E5
    have E2 := chain D4.out E4
    have E1 := chain D2.out E2
    have E0 := chain A0.out (chain D1.out E1)
    have U1 := E1.size
    have U2 := E2.size
    have U4 := E4.size
    have U5 := E5.size
    have U6 := E6.size
    rw [S1.out] at U1
    rw [S2.out] at U2
    rw [S4.out] at U4
    rw [S5.out] at U5
    have F1 := B1.out.later E1
    have F2 := B2.out.later E2
    have F4 := B4.out.later E4
    have F5 := B5.out.later E5
    have G1 := hid (X1.out.below E1 (by rw [S1.out]; omega))
    have G2 := hid (X2.out.below E2 (by rw [S2.out]; omega))
    have G4 := hid (X4.out.below E4 (by rw [S4.out]; omega))
    have H4 := hid (Y4.out.below E4 (by rw [S4.out]; omega))
    have G5 := hid (X5.out.below E5 (by rw [S5.out]; omega))
    have H5 := hid (Y5.out.below E5 (by rw [S5.out]; omega))
    have G6 := hid (X6.out.below E6 (Nat.le_refl _))
    clear X1 X2 X4 X5 X6 Y4 Y5 B1 B2 B4 B5 D1 D2 D4 D5 D6 E6 E5 E4 E2 E1 A0 S1 S2 S4 S5 a1 x1 Q4'
    go_wp2_with fail
    refine (Q1'.out _).mono ?_
    rintro e v0 ⟨hv0, rfl⟩
    have hv0s := hv0.size
    have F1v := F1.later hv0
    have F2v := F2.later hv0
    obtain ⟨c0, c1, f0, f1⟩ := F1v.two
    obtain ⟨d0, d1, g0, g1⟩ := F2v.two
    have QS := hid (sameI_true _ _ _ _ ng _ _ xs v0 (G1.out.below hv0 (by omega)) (by omega) (by have := HL1.out; omega) (G2.out.below hv0 (by omega)) (by omega))
    clear Q1' F1v F2v
    go_wp2_with fail
    refine QS.out.mono ?_
    rintro e v1 ⟨rfl, hv1⟩
    have K1 := chain hv0 hv1
    have K1s := K1.size
    have QF := hid (sameF_true _ _ _ _ _ _ _ _ mg _ _ _ _ us bs v1 (G4.out.below K1 (by omega)) (by omega) (H4.out.below K1 (by omega)) (by omega) (G5.out.below K1 (by omega)) (by omega) (H5.out.below K1 (by omega)) (by omega)
      (by have := HL2.out.1; have := HRS.out; omega) (by have := HL2.out.2; have := HRS.out; omega))
    have F4v := F4.later K1
    have F5v := F5.later K1
    obtain ⟨⟨i0, i1, i2, i3⟩, j0, j1, j2, j3⟩ := F4v.four
    obtain ⟨⟨k0, k1, k2, k3⟩, m0, m1, m2, m3⟩ := F5v.four
    clear QS c0 c1 f0 f1 d0 d1 g0 g1 F4v F5v hv0 hv1 hv0s
    go_wp2_with fail
    refine QF.out.mono ?_
    rintro e v2 ⟨rfl, hv2⟩
    have K2 := chain K1 hv2
    have K2s := K2.size
    have QR := hid (rows_true _ _ _ _ _ _ X v2 (G6.out.below K2 (by omega)) (by omega) (X7.out.below K2 (Nat.le_refl _)) K2s HL4.out.2 (fun x hx => by have := HL4.out.1 x hx; omega))
    clear QF i0 i1 i2 i3 j0 j1 j2 j3 k0 k1 k2 k3 m0 m1 m2 m3 hv2 K1
    go_wp2_with fail
    refine QR.out.mono ?_
    rintro e v3 ⟨rfl, hv3⟩
    have K3 := chain K2 hv3
    clear QR hv3 K2
    go_wp2_with fail
    refine (QA.out _).mono ?_
    rintro e v4 ⟨rfl, hv4⟩
    have K4 := chain E0 (chain K3 hv4)
    go_wp2
    go_ret
    exact ⟨rfl, K4⟩

set_option maxRecDepth 100000 in
theorem plain_lifted (os : Os) (started : os.Started) (H : Type) (enc : TypeId × Value → H) :
    ReturnsInHanded {} Try.checked os 6 .any (Rows.numeralPlainSpec.pre6 enc Try.prog Try.f6 Rows.numeralPlainRow.domain false) (Rows.numeralPlainSpec.post enc Try.prog Try.f6 false true false false) := by
  refine returnsInHanded_of_change (C := Try.checked) own_knob started (by kernel_rfl) Try.func6
    (ChangeSpec.witness6 (enc := enc) (C := Try.checked) false ⟨#[], #[.string .empty], []⟩ 8 (by kernel_rfl) (by kernel_rfl) (by kernel_rfl) (by kernel_rfl)) ?_
  intro W base args ds gs before hval hW hcnd _
  have hW' := hW
  obtain ⟨p, q, hA0, hV, rfl, hfz, hnd⟩ := hW
  have hA : DataW.TrodAll enc Try.prog W 0 (fun _ => true) true Try.f6.params.toList args.toList ds p := hA0
  rw [Try.params6] at hA hval
  obtain ⟨v0, d0, rfl, rfl, h0⟩ := trodAll_one hA
  obtain ⟨rfl, rfl⟩ := trodVars_none hV
  obtain ⟨s, rfl, rfl, rfl, hs⟩ := Go.ChangeMaps.open_string Try.underlying9 (hval 0 9 v0 rfl rfl) h0
  clear hA0
  simp only [List.append_nil] at hW'
  refine (plain_walk s W).mono fun e W' ⟨he, hg⟩ => ?_
  subst he
  exact ⟨_, rfl, post_stays (pv := []) hW' hg (fun _ _ _ => (trodAll_cons_mk (shut_bool Try.underlying4 _) trodAll_mk0))
    (trodAll_mk1 (Go.ChangeMaps.shut_string Try.underlying9 hs)) rfl⟩

/-- The law similelaw02.NumeralPlain: on every start it returns true and nothing that was there turns. Conditions: none. -/
theorem numeralPlain_holds : Rows.NumeralPlainSaid :=
  OpenClaim.holds_of_wide 6 Try.f6 rfl rfl rfl rfl rfl rfl rfl ⟨rfl, rfl, rfl, rfl, rfl⟩ rfl rfl rfl rfl rfl (by kernel_rfl) Try.func6 (by kernel_rfl)
    (of_decide_eq_true (by kernel_rfl)) (by unfold Func.isWrapper; first | (rw [if_pos (by decide +kernel)]; kernel_rfl) | (rw [if_neg (by decide +kernel)]; exact ⟨rfl, rfl⟩))
    (fun os started H enc _ => plain_lifted os started H enc)
#print axioms numeralPlain_holds
end Go.Proofs.Ytjjidmgeladicaa
