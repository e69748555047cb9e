/- The law similelaw02.NumeralBases, where its argument is of bulk at most 1048576, returns true and leaves all as it was. -/
import Derived.Test.YtjjidmgeladicaaLaw2
import Derived.Test.YtjjidmgeladicaaArgs
namespace Go.Proofs.Ytjjidmgeladicaa
open Go.ChangeShapes Go.WideShapes Go.ChangeAt Go.RowKit

theorem sameI_true (lo h1 lo2 h2 : Nat) (ng : Bool) (v v2 : Value) (xs : List Nat) (w : World) (h : Limbs lo h1 w v xs) (hhi : h1 ≤ w.heap.size) (hl : xs.length ≤ 4398046511104) (h' : Limbs lo2 h2 w v2 xs) (hhi2 : h2 ≤ w.heap.size) :
    Calls Try.prog 15 #[.agg #[.bool ng, v], .agg #[.bool ng, v2]] w fun e w' => e = .returned (.bool true) ∧ Below w.heap.size w w' := by
  have := same02_any lo h1 lo2 h2 ng ng v v2 xs xs w h hhi hl h' hhi2
  simpa using this

theorem parseB_len (b : Nat) (L : List Nat) (hb : b ≤ 36) : (toL (parseB b L).2.1).length ≤ 1000000000 := by
  obtain ⟨U, hU⟩ : ∃ U, (if negative L then L.tail else L) = U := ⟨_, rfl⟩
  by_cases h0 : U = []
  · rw [parse_bad b L U hU (.inl h0)]; simp [toL_zero]
  · by_cases hall : AllOk b U
    · by_cases hlong : 10000 < U.length
      · rw [parse_long b L U hU h0 hall hlong]; simp [toL_zero]
      · rw [parse_ok b L U hU h0 hall hlong]
        refine Nat.le_trans (ofDigits_len b _ hb ?_) (by simp; omega)
        intro d hd
        obtain ⟨r, hr, rfl⟩ := List.mem_map.1 hd
        exact hall r hr
    · rw [parse_bad b L U hU (.inr hall)]; simp [toL_zero]

theorem based_none (neg : Bool) (v : Value) (b : Int) (w : World) (hbb : b < 2 ∨ 36 < b) :
    Calls Try.prog 20 #[.agg #[.bool neg, v], .int .i64 b] w fun e w' => e = .returned (.tuple #[.string ⟨#[]⟩, .int .i64 1]) ∧ Below w.heap.size w w' := based_bad neg v b w hbb

set_option maxRecDepth 100000 in
set_option maxHeartbeats 3200000 in
theorem bases_walk (neg : Bool) (v : Value) (xs : List Nat) (s : ByteArray) (base : Int) (w : World) (h : Limbs 0 w.heap.size w v xs) (hl : xs.length ≤ 1099511627776) :
    Calls Try.prog 5 #[.agg #[.bool neg, v], .string s, .int .i64 base] w fun e w' => e = .returned (.bool true) ∧ Below w.heap.size w w' := by
  obtain ⟨hb0, b0, hsz⟩ := boxA w #[.bool neg, v] 29
  have QA := hid fun w => awake_any w
  have QN := hid fun n w => num_any n w
  by_cases hs : 65536 < s.size
  · have Q0 := hid fun w => long_yes s w hs
    clear h hl hsz b0 QN
    go_enter Try.func5, Try.ntmps5
    go_wp2_with fail
    refine (Q0.out _).mono ?_
    rintro e w' ⟨rfl, rfl⟩
    go_wp2_with fail
    refine (QA.out _).mono ?_
    rintro e w1 ⟨rfl, hb1⟩
    go_wp2
    go_ret
    exact ⟨rfl, hb0.trans (hb1.mono hb0.size)⟩
  · have Q0 := hid fun w => long_no s w (by omega)
    obtain ⟨c0, c1, f0, f1⟩ := b0.two
    by_cases hbase : 2 ≤ base ∧ base ≤ 36
    · obtain ⟨hba, hbb⟩ := hbase
      obtain ⟨b, rfl⟩ : ∃ b : Nat, base = (b : Nat) := ⟨base.toNat, by omega⟩
      have hb2 : 2 ≤ b := by omega
      have hb36 : b ≤ 36 := by omega
      have h1 := h.below hb0 (Nat.le_refl _)
      obtain ⟨ST, hST⟩ : ∃ ST, strOf (intS b neg (natOf xs)) = ST := ⟨_, rfl⟩
      have hlen := parseB_len b (runesOf s) hb36
      obtain ⟨⟨ng, N, cd⟩, hx⟩ : ∃ x, parseB b (runesOf s) = x := ⟨_, rfl⟩
      rw [hx] at hlen
      dsimp only at hlen
      have q1 := based_any _ _ neg v xs b _ h1 hb0.size hl hb2 hb36
      rw [hST] at q1
      have Q1 := hid q1
      have Q2 := hid fun w => fromBase_any s b w (by omega) hb2 hb36
      have Q3 := hid fun w => fromBase02_any s b w (by omega) hb2 hb36
      rw [hx] at Q2 Q3
      have Q4 := hid fun w1 (hb : Below w.heap.size w w1) => based02_any _ _ neg v xs b w1 (h.below hb (Nat.le_refl _)) hb.size hl hb2 hb36
      rw [hST] at Q4
      clear h hl hsz h1 q1 hST hx
      have B0 := hid b0
      go_enter Try.func5, Try.ntmps5
      go_wp2_with fail
      refine (Q0.out _).mono ?_
      rintro e w' ⟨rfl, rfl⟩
      go_wp2_with fail
      refine Q1.out.mono ?_
      rintro e w1 ⟨rfl, hb1⟩
      have hA := hb0.trans (hb1.mono hb0.size)
      go_wp2_with fail
      refine (Q2.out _).mono ?_
      rintro e w2 ⟨hb2', y, rfl, hy⟩
      obtain ⟨ad, cap, rfl⟩ := hy.shape
      dsimp only at hy ⊢
      have hB := hA.trans (hb2'.mono hA.size)
      have hbn := BoxIs.new w2 #[.bool ng, .slice ad (toL N).length cap] 29
      have hC := hB.alloc hB.size (.cells #[.bool ng, .slice ad (toL N).length cap] 29)
      have hal : Below w2.heap.size w2 (w2.alloc (.cells #[.bool ng, .slice ad (toL N).length cap] 29)) := (Below.refl _ _).alloc (Nat.le_refl _) _
      have hy2 := hy.below hal (Nat.le_refl _)
      have b2 := ((B0.out.later hb1).later hb2').later hal
      have hs2 : w2.heap.size + 1 = (w2.alloc (.cells #[.bool ng, .slice ad (toL N).length cap] 29)).heap.size := by simp
      have HB := hid hb1.size
      have HB2 := hid hb2'.size
      clear Q0 Q1 Q2 hb1 hb2' hy hA hB hal c0 c1 f0 f1
      go_wp2_with fail
      refine (Q3.out _).mono ?_
      rintro e w3 ⟨hb3, z, rfl, hz⟩
      obtain ⟨ad2, cap2, rfl⟩ := hz.shape
      dsimp only at hz ⊢
      have hD := hC.trans (hb3.mono hC.size)
      have hbn2 := BoxIs.new w3 #[.bool ng, .slice ad2 (toL N).length cap2] 29
      have hE := hD.alloc hD.size (.cells #[.bool ng, .slice ad2 (toL N).length cap2] 29)
      have hal : Below w3.heap.size w3 (w3.alloc (.cells #[.bool ng, .slice ad2 (toL N).length cap2] 29)) := (Below.refl _ _).alloc (Nat.le_refl _) _
      have hz2 := hz.below hal (Nat.le_refl _)
      have hsz3 := hb3.size
      have hy3 := (hy2.below hb3 (by omega)).below hal (by omega)
      have b3 := (b2.later hb3).later hal
      have bn3 := (hbn.later hb3).later hal
      have hs3 : w3.heap.size + 1 = (w3.alloc (.cells #[.bool ng, .slice ad2 (toL N).length cap2] 29)).heap.size := by simp
      clear Q3 hb3 hz hy2 hC hD hal hbn b2
      obtain ⟨c0, c1, f0, f1⟩ := b3.two
      obtain ⟨d0, d1, g0, g1⟩ := bn3.two
      obtain ⟨e0, e1, k0, k1⟩ := hbn2.two
      have HBN2 := hid hbn2
      have HE := hid hE
      have Q4' := hid (Q4.out _ hE)
      go_wp2_with fail
      refine (QN.out _ _).mono ?_
      rintro e w' ⟨rfl, rfl⟩
      go_wp2_with fail
      refine Q4'.out.mono ?_
      rintro e w4 ⟨rfl, hb4⟩
      have hF := HE.out.trans (hb4.mono HE.out.size)
      have bn4 := (hid bn3).out.later hb4
      have bm4 := HBN2.out.later hb4
      have hs4 := hb4.size
      have QS := hid (sameI_true _ _ _ _ ng _ _ (toL N) w4 (hy3.below hb4 (by omega)) (by omega) (by omega) (hz2.below hb4 (by omega)) (by omega))
      clear c0 c1 f0 f1 d0 d1 g0 g1 e0 e1 k0 k1 b3 hbn2 hE Q4 Q4' hb4 hy3 hz2 bn3
      obtain ⟨d0, d1, g0, g1⟩ := bn4.two
      obtain ⟨e0, e1, k0, k1⟩ := bm4.two
      go_wp2_with fail
      refine (QN.out _ _).mono ?_
      rintro e w' ⟨rfl, rfl⟩
      go_wp2_with fail
      refine QS.out.mono ?_
      rintro e w5 ⟨rfl, hb5⟩
      have hG := hF.trans (hb5.mono hF.size)
      clear d0 d1 g0 g1 e0 e1 k0 k1 QS hb5 bn4 bm4 hs4
      go_wp2_with fail
      refine (QA.out _).mono ?_
      rintro e w6 ⟨rfl, hb6⟩
      have hH := hG.trans (hb6.mono hG.size)
      go_wp2
      go_ret
      exact ⟨rfl, hH⟩
    · have hbb : base < 2 ∨ 36 < base := by omega
      have Q1 := hid (based_none neg v base (w.alloc (.cells #[.bool neg, v] 29)) hbb)
      have Q2 := hid fun w => fromBase_none s base w hbb
      have QZ := hid fun w => nothing_zero w
      clear h hl hsz b0
      rcases hbb with hbb | hbb
      all_goals
        clear hbase
        go_enter Try.func5, Try.ntmps5
        go_wp2_with fail
        refine (Q0.out _).mono ?_
        rintro e w' ⟨rfl, rfl⟩
        go_wp2_with fail
        refine Q1.out.mono ?_
        rintro e w1 ⟨rfl, hb1⟩
        have hA := hb0.trans (hb1.mono hb0.size)
        clear c0 c1 f0 f1 hb1
        go_wp2_with fail
        refine (Q2.out _).mono ?_
        rintro e w2 ⟨hb2, rfl⟩
        have hB := hA.trans (hb2.mono hA.size)
        have hbn := BoxIs.new w2 #[.bool false, .slice none 0 0] 29
        have hC := hB.alloc hB.size (.cells #[.bool false, .slice none 0 0] 29)
        obtain ⟨d0, d1, g0, g1⟩ := hbn.two
        clear hb2
        go_wp2_with fail
        refine (QN.out _ _).mono ?_
        rintro e w' ⟨rfl, rfl⟩
        go_wp2_with fail
        refine (QN.out _ _).mono ?_
        rintro e w' ⟨rfl, rfl⟩
        go_wp2_with fail
        refine (QZ.out _).mono ?_
        rintro e w3 ⟨rfl, hb3⟩
        have hD := hC.trans (hb3.mono hC.size)
        clear d0 d1 g0 g1 hb3 hbn
        go_wp2_with fail
        refine (QA.out _).mono ?_
        rintro e w4 ⟨rfl, hb4⟩
        have hE := hD.trans (hb4.mono hD.size)
        go_wp2
        go_ret
        exact ⟨rfl, hE⟩

set_option maxRecDepth 100000 in
theorem bases_contract {base : Nat} (H : Type) (enc : TypeId × Value → H) (W : World) (args : Array Value) (ds gs : List (DataW H)) (before : List MemPlace)
    (hval : ∀ (j : Nat) t v, Try.f5.params[j]? = some t → args[j]? = some v → Value.okWide Try.prog W .any base t v)
    (hW : DataW.Whole enc Try.prog Try.f5.params.toList Rows.numeralBasesSpec.vars false W args.toList ds gs before) (hk : Rows.uptoSmall H (ds ++ gs) = true) :
    Calls Try.prog 5 args W fun e W' => ∃ v, e = .returned v ∧ Rows.numeralBasesSpec.post enc Try.prog Try.f5 false true false false W args v W' := by
  have hW' := hW
  obtain ⟨p, q, hA0, hV, rfl, hfz, hnd⟩ := hW
  have hA : DataW.TrodAll enc Try.prog W 0 (fun _ => true) true Try.f5.params.toList args.toList ds p := hA0
  rw [Try.params5] at hA hval
  obtain ⟨v0, v1, v2, d0, d1, d2, p0, p1, p2, rfl, rfl, rfl, h0, h1, h2⟩ := trodAll_three hA
  obtain ⟨rfl, rfl⟩ := trodVars_none hV
  have hlt := hW'.lt
  obtain ⟨neg, vn, xs, rfl, hx, hxl⟩ := open_intarg (hval 0 29 v0 rfl rfl) h0
  obtain ⟨s, rfl, rfl, rfl, hs⟩ := Go.ChangeMaps.open_string Try.underlying9 (hval 1 9 v1 rfl rfl) h1
  obtain ⟨base, rfl, rfl, rfl, wb⟩ := open_int Try.underlying3 (hval 2 3 v2 rfl rfl) h2
  clear hA0
  simp only [List.append_nil] at hW' hk hlt
  have hb : Rows.uptoBulkAll [d0, .lit (.string s.data.toList), .lit (.int .i64 base)] ≤ 1048576 := of_decide_eq_true hk
  simp only [Rows.uptoBulkAll] at hb
  refine (bases_walk neg vn xs s base W hx (by omega)).mono fun e W' ⟨he, hg⟩ => ?_
  subst he
  exact ⟨_, rfl, post_stays (pv := []) hW' hg (fun _ _ _ => (trodAll_cons_mk (shut_bool Try.underlying4 _) trodAll_mk0))
    (trodAll_mk3 (stays (by kernel_rfl) (of_decide_eq_true (by kernel_rfl)) h0 hg hlt) (Go.ChangeMaps.shut_string Try.underlying9 hs) (shut_int Try.underlying3 wb)) rfl⟩

set_option maxRecDepth 100000 in
theorem bases_lifted (os : Os) (started : os.Started) (H : Type) (enc : TypeId × Value → H) (F : Stop.Interp) :
    ReturnsInHanded {} Try.checked os 5 .any ((Rows.OpenSpec.upto Rows.numeralBasesSpec).pre6 enc Try.prog Try.f5 Rows.numeralBasesUptoRow.domain false) (((Rows.OpenSpec.upto Rows.numeralBasesSpec).at F).post enc Try.prog Try.f5 false true false false) := by
  refine returnsInHanded_of_cond (C := Try.checked) (s := Rows.OpenSpec.upto Rows.numeralBasesSpec) (k := Rows.uptoSmall) rfl own_knob started (by kernel_rfl) Try.func5
    (OpenSpec.witness (enc := enc) (C := Try.checked) (s := Rows.OpenSpec.upto Rows.numeralBasesSpec) (k := Rows.uptoSmall) rfl false ⟨#[], #[.agg #[.bool false, .slice none 0 0], .string .empty, .int .i64 0], []⟩ 8 (by kernel_rfl) (by kernel_rfl) (by kernel_rfl)
      (x := ([.agg [.lit (.bool false), .nil], .lit (.string []), .lit (.int .i64 0)], [], [])) (by kernel_rfl) rfl (by kernel_rfl)) ?_
  intro W base args ds gs before hval hW _ hk _
  exact bases_contract H enc W args ds gs before hval hW hk

/-- The law similelaw02.NumeralBases, where what it reads is of bulk at most 1048576: on every start it returns true and nothing that was there turns. -/
theorem numeralBases_holds : Rows.NumeralBasesUptoSaid :=
  OpenClaim.holds_of_cond 5 Try.f5 rfl rfl rfl rfl rfl rfl rfl ⟨rfl, rfl, rfl, rfl, rfl⟩ rfl rfl rfl rfl rfl (by kernel_rfl) Try.func5 (by kernel_rfl)
    (of_decide_eq_true (by kernel_rfl)) (by unfold Func.isWrapper; first | (rw [if_pos (by decide +kernel)]; kernel_rfl) | (rw [if_neg (by decide +kernel)]; exact ⟨rfl, rfl⟩))
    (fun os started H enc _ F => bases_lifted os started H enc F)
#print axioms numeralBases_holds
end Go.Proofs.Ytjjidmgeladicaa
