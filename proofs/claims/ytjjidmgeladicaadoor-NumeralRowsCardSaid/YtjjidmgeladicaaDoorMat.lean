/- numeral.Matrix: a matrix' rows, or where it is wrong. -/
import Derived.Test.YtjjidmgeladicaaDoorMatOwn
import Derived.Test.YtjjidmgeladicaaDoorFields
import Derived.Test.YtjjidmgeladicaaDoorShelf
namespace Go.Proofs.YtjjidmgeladicaaDoor
open Go.RowKit Go.Shelf

theorem semi_grows (w : World) : PredGrows Tryd.prog 44 #[] isSemi w := by
  intro W x hx hb
  show Calls Tryd.prog 44 #[.int .i32 (x : Nat)] W _
  by_cases h : x = 59
  · subst h
    go_enter Tryd.func44, Tryd.ntmps44
    go_wp2
    go_ret
    exact ⟨rfl, Below.refl _ _⟩
  · have h2 : ((x : Int) == 59) = false := by simp; omega
    have h3 : isSemi x = false := by simp [isSemi, h]
    rw [h3]
    clear h h3
    go_enter Tryd.func44, Tryd.ntmps44
    go_wp2
    go_ret
    exact ⟨rfl, Below.refl _ _⟩

theorem mk_size (l : List UInt8) : (⟨l.toArray⟩ : ByteArray).size = l.length := by show l.toArray.size = _; simp

/-- what numeral.Matrix parts, as a string -/
def matS (s : ByteArray) : ByteArray := ⟨(matB2 s).toArray⟩

theorem matS_size (s : ByteArray) : (matS s).size ≤ 2 * s.size + 1 := by
  unfold matS
  rw [mk_size]
  exact matB2_len s

/-- the fields, with what stands in them -/
theorem matS_fields (s : ByteArray) : ∃ FL : List ByteArray, Lib.goFieldsP isSemi (matS s) = FL ∧ FL.length = (partedL isEnd (runesOf s)).length ∧
    ∀ (k : Nat) (t : ByteArray), FL[k]? = some t → ∃ c, (partedL isEnd (runesOf s))[k]? = some c ∧ 1 ≤ t.size ∧ runesOf (t.extract 1 t.size) = c := by
  have h := fields_mat s
  obtain ⟨FL, hFL⟩ : ∃ FL, Lib.goFieldsP isSemi (matS s) = FL := ⟨_, rfl⟩
  have h2 : FL.map runesOf = (partedL isEnd (runesOf s)).map (120 :: ·) := by rw [← hFL]; exact h
  refine ⟨FL, hFL, by simpa using congrArg List.length h2, fun k t ht => ?_⟩
  have h3 := congrArg (fun l => l[k]?) h2
  simp only [List.getElem?_map, ht, Option.map_some] at h3
  cases hc : (partedL isEnd (runesOf s))[k]? with
  | none => rw [hc] at h3; cases h3
  | some c =>
    rw [hc] at h3
    simp only [Option.map_some, Option.some.injEq] at h3
    obtain ⟨g1, g2⟩ := tail_x t c h3
    exact ⟨c, rfl, g1, g2⟩

set_option maxRecDepth 100000 in
set_option maxHeartbeats 6400000 in
/-- numeral.Matrix -/
theorem matrix_any (s : ByteArray) (w : World) (hs : s.size ≤ 100000000) (m : Int) (hm : w.cell? ⟨2, 0, none⟩ = some (.int .i64 m)) :
    Calls Tryd.prog 17 #[.string s] w fun e w' => Below w.heap.size w w' ∧ MatTold w w' e (matR (runesOf s)) := by
  have h20 : 2 < w.heap.size := World.block_lt_of_cell? w ⟨2, 0, none⟩ hm
  obtain ⟨FL, hFL, hFl, hFt⟩ := matS_fields s
  have hms := matS_size s
  unfold matR
  have hrl := runesAt_len s 0
  have hCl : (partedL isEnd (runesOf s)).length ≤ 100000001 := by
    have := sumLen_len (partedL isEnd (runesOf s))
    rw [parted_len] at this
    unfold runesOf at this
    unfold runesOf
    omega
  have hsz : ∀ t, t ∈ FL → t.size ≤ 200000001 := by
    intro t ht
    rw [← hFL] at ht
    unfold Lib.goFieldsP at ht
    obtain ⟨x, _, rfl⟩ := List.mem_map.1 ht
    rw [ByteArray.size_extract]
    omega
  obtain ⟨C, hC⟩ : ∃ C, partedL isEnd (runesOf s) = C := ⟨_, rfl⟩
  rw [hC] at hFl hFt hCl ⊢
  obtain ⟨X, hX⟩ : ∃ X, matGo [] C = X := ⟨_, rfl⟩
  rw [hX]
  have HX := hid hX
  have HFT := hid hFt
  have HSZ := hid hsz
  have c1 : Lib.countB s ⟨#[59]⟩ ≤ s.size := Lib.countB_le ⟨#[59]⟩ (by decide) s.size s (Nat.le_refl _)
  have Q1 := hid (Tryd.strings_ReplaceAll s ⟨#[59]⟩ ⟨#[59, 120]⟩ m w (by omega) hm (by decide) (by show _ + _ * 2 ≤ _; omega))
  obtain ⟨s1, hs1⟩ : ∃ s1, (⟨(Lib.replaceAll s.data.toList (⟨#[59]⟩ : ByteArray).data.toList (⟨#[59, 120]⟩ : ByteArray).data.toList).toArray⟩ : ByteArray) = s1 := ⟨_, rfl⟩
  rw [hs1] at Q1
  have hl1 : s1.size ≤ 2 * s.size := by
    rw [← hs1, mk_size]
    show (Lib.replaceAll s.data.toList [59] [59, 120]).length ≤ _
    rw [replaceAll_sub 59 (.inr trivial)]
    have hz : s.data.toList.length = s.size := by rw [Array.length_toList]; rfl
    have : ∀ l : List UInt8, (l.flatMap (subB 59)).length ≤ 2 * l.length := by
      intro l
      induction l with
      | nil => simp
      | cons b l ih =>
        rw [List.flatMap_cons, List.length_append, List.length_cons]
        have : (subB 59 b).length ≤ 2 := by unfold subB; split <;> simp
        omega
    have := this s.data.toList
    omega
  have c2 : Lib.countB s1 ⟨#[10]⟩ ≤ s1.size := Lib.countB_le ⟨#[10]⟩ (by decide) s1.size s1 (Nat.le_refl _)
  have Q2 := hid fun (w1 : World) (hm1 : w1.cell? ⟨2, 0, none⟩ = some (.int .i64 m)) => Tryd.strings_ReplaceAll s1 ⟨#[10]⟩ ⟨#[59, 120]⟩ m w1 (by omega) hm1 (by decide) (by show _ + _ * 2 ≤ _; omega)
  obtain ⟨s2, hs2⟩ : ∃ s2, (⟨(Lib.replaceAll s1.data.toList (⟨#[10]⟩ : ByteArray).data.toList (⟨#[59, 120]⟩ : ByteArray).data.toList).toArray⟩ : ByteArray) = s2 := ⟨_, rfl⟩
  rw [hs2] at Q2
  have hS : matS s = ⟨#[120]⟩ ++ s2 := by
    have h1 : matS s = ⟨(120 :: s2.data.toList).toArray⟩ := by rw [← hs2, ← hs1]; rfl
    rw [h1]
    apply ByteArray.ext
    rw [ByteArray.data_append]
    apply Array.toList_inj.1
    simp
  have hl2 : s2.size ≤ 200000000 := by
    have h1 := hms
    rw [hS, ByteArray.size_append] at h1
    have h3 : (⟨#[120]⟩ : ByteArray).size = 1 := rfl
    omega
  have HM := hid hm
  have Q3 := hid fun (w1 : World) => Tryd.strings_FieldsFunc_grows 44 #[] (enters_of Tryd.func44 (by kernel_rfl) rfl) isSemi (matS s) w1 (by omega) (semi_grows w1)
  rw [hFL, hS] at Q3
  have HFL := hid hFl
  have hFle : FL.length ≤ 100000001 := by omega
  clear hC hX hFt hFL hsz hms hs1 hs2 hS hm hrl c1 c2 hl1 hFl
  go_enter Tryd.func17, Tryd.ntmps17
  go_wp2_with fail
  refine Q1.out.mono ?_
  clear Q1
  rintro e w0 ⟨rfl, hb0⟩
  have Q2' := hid (Q2.out w0 ((hb0.cell (p := ⟨2, 0, none⟩) h20).trans HM.out))
  clear Q2
  go_wp2_with fail
  refine Q2'.out.mono ?_
  clear Q2'
  rintro e w1 ⟨rfl, hb01⟩
  have hb1 := hb0.trans (hb01.mono hb0.size)
  clear hb0 hb01
  have Q3' := hid (Q3.out w1)
  clear Q3
  go_wp2_with fail
  refine Q3'.out.mono ?_
  clear Q3'
  rintro e w2 ⟨A, rfl, hA, hown, hb2⟩
  have hb := hb1.trans (hb2.mono hb1.size)
  have HOWNS := hid hown
  have HB := hid hb
  clear hb hb1 hb2 hown
  go_wp2
  have hB0 : 0 < w2.heap.size := by have := HB.out.size; omega
  go_loopw [6, 18] (fun ov iv wr => ∃ (k : Nat) (out : List (List Fr)), iv = .int .i64 k ∧ k ≤ FL.length ∧ MatOwn w2.heap.size wr ov out ∧ Below w2.heap.size w2 wr ∧ matGo out (C.drop k) = X ∧ out.length = k)
    (fun _ iv _ => FL.length - (intOf iv).toNat)
  case atStart => exact ⟨0, [], rfl, Nat.zero_le _, MatOwn.nil (Nat.le_refl _), Below.refl _ _, HX.out, rfl⟩
  case round =>
    obtain ⟨k, out, rfl, hk, hout, hbel, hgo, hol⟩ := hrel
    have HGO := hid hgo
    have HOUT := hid hout
    have HOL := hid hol
    have hol2 : out.length ≤ 100000001 := by omega
    clear hgo hout hol
    by_cases hkl : k < FL.length
    · obtain ⟨t, ht⟩ : ∃ t, FL[k]? = some t := ⟨_, List.getElem?_eq_getElem hkl⟩
      obtain ⟨c, hc, ht1, htr⟩ := HFT.out k t ht
      have htz := HSZ.out t (List.mem_of_getElem? ht)
      obtain ⟨d0, _⟩ := own_atV HOWNS.out k (.string t) (by rw [List.getElem?_map, ht]; rfl)
      have hAlt : A < w2.heap.size := (HOWNS.out.lt A rfl).2
      have d1 : wr.cell? ⟨A, k, none⟩ = some (.string t) := (hbel.cell (p := ⟨A, k, none⟩) hAlt).trans d0
      have hdrop := drop_at C k c hc
      have hgo := HGO.out
      rw [hdrop, matGo] at hgo
      have f1 : (k : Int) < (FL.length : Int) := by omega
      have f2 : (1 : Int) ≤ (t.size : Int) := by omega
      have q1 := row_own (t.extract 1 t.size) wr (by rw [ByteArray.size_extract]; omega)
      rw [rowOf_R, htr] at q1
      obtain ⟨⟨RL, RN, RC⟩, hy⟩ : ∃ y, rowR c = y := ⟨_, rfl⟩
      rw [hy] at q1 hgo
      have Q1 := hid q1
      have HGO1 := hid hgo
      have HBEL := hid hbel
      have hsb := hbel.size
      obtain ⟨ado, co, hos⟩ := HOUT.out.shape
      subst hos
      clear d0 hdrop hgo q1 hc ht htr HGO hbel hy
      go_wp2_with fail
      refine Q1.out.mono ?_
      clear Q1
      rintro e w3 ⟨hb3, r2, rfl, hr2⟩
      obtain ⟨ad2, cap2, rfl⟩ := hr2.shape
      have HR2 := hid hr2
      have hC := HBEL.out.trans (hb3.mono hsb)
      have HC := hid hC
      by_cases hce : RC = 0
      · subst hce
        have hg5 := HGO1.out
        rw [if_neg (by simp)] at hg5
        have HG5 := hid hg5
        obtain ⟨rs, f, hparts⟩ := HOUT.out
        have HPARTS := hid hparts
        have HOWN := hid (hparts.later hB0 hb3).1
        have HB2 := hid hb3
        clear HGO1 hg5 hparts hr2 hC hb3
        go_wp2_with (at_builtin; refine wpl_append1 elemFracRow rfl _ _ rfl w2.heap.size out.length 1 1 _ rs #[.slice ad2 RL.length cap2] HOWN.out rfl rfl rfl (by simp [Value.oneCell']) (by omega) (by decide) (by unfold maxLen; omega) HC.out HC.out.size ?_)
        intro g6 c6 w6 ho6 hb6 hg6
        have hsn := HPARTS.out.snoc hB0 HB2.out HR2.out (by simpa using ho6) hg6
        have HSN := hid hsn
        have HB6 := hid hb6
        clear hsn ho6 hb6 hg6
        go_wp2
        go_roundw
        case rel =>
          obtain ⟨f', hf'⟩ := HSN.out
          exact ⟨k + 1, out ++ [RL], by go_num, by omega, ⟨_, _, by simpa using hf'⟩, HB6.out, HG5.out, by have := HOL.out; simp; omega⟩
        case measure => simp [intOf]; omega
      · have hg5 := HGO1.out
        rw [if_pos hce] at hg5
        have hne : (((RC : Nat) : Int) != 0) = true := by simp; omega
        have HG5 := hid hg5
        clear HGO1 hg5 hr2 hC hb3
        go_wp2
        exact bodyPost_ret (v := .tuple #[.slice none 0 0, .int .i64 ((out.length : Int) + 1), .int .i64 (RN : Nat), .int .i64 (RC : Nat)]) (by simp [results, Tryd.results17, go_sem]) rfl ⟨HB.out.trans (HC.out.mono HB.out.size), by
          rw [← HG5.out]
          refine ⟨_, ?_, MatOwn.nil (Nat.le_trans HB.out.size HC.out.size)⟩
          simp⟩
    · obtain rfl : k = FL.length := by omega
      have hgo := HGO.out
      rw [HFL.out, List.drop_length, matGo] at hgo
      obtain ⟨ado, co, hos⟩ := HOUT.out.shape
      subst hos
      have HG := hid hgo
      have HBEL := hid hbel
      clear hgo hbel
      go_wp2
      exact bodyPost_ret (v := .tuple #[.slice ado out.length co, .int .i64 0, .int .i64 0, .int .i64 0]) (by simp [results, Tryd.results17, go_sem]) rfl ⟨HB.out.trans (HBEL.out.mono HB.out.size), by
        rw [← HG.out]
        exact ⟨_, rfl, HOUT.out.base HB.out.size⟩⟩
end Go.Proofs.YtjjidmgeladicaaDoor
