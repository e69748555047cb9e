/- simileref02.CopyAll: fractions in new memory. -/
import Derived.Test.YtjjidmgeladicaaRowN
import Derived.Deep.RegionHeld3
import Derived.Deep.DrawnRows
namespace Go.Proofs.Ytjjidmgeladicaa
open Go.RowKit
attribute [local go_sem ↓] Go.wp_at_zero Go.wp_at_succ

/-- append of limbs as one step of a region that draws -/
theorem step_limbs {P : Program} {w w0 : World} {ops : Array Oper} {o : Oper} {a : Act} {K : Act → World → Prop} {Q : Exit → Act → World → Prop} {E0 : Prop} {t e : TypeId}
    (E : Elem P t e (.int .u32 0) 1 4) (hg : o.guard = none) (s x : Operand) (ho : o.op = .call { callee := .builtin .append, args := #[s, x], argTypes := #[t, t] })
    (B n : Nat) (v v2 : Value) (cells : List Value) (ys : List Nat) (lo hi : Nat) (hown : w.ownsRow B e 1 v n cells) (hL : Limbs lo hi w v2 ys) (hs : a.eval s = v) (hx : a.eval x = v2)
    (hb : n + ys.length ≤ 35184372088832) (hbl : Below B w0 w) (hB : B ≤ w.heap.size)
    (h : ∀ v' w', w'.ownsRow B e 1 v' (n + ys.length) (cells ++ u32s ys) → Below B w0 w' → w.grownBy w' v.ownBlock → K (a.put o.dst v') w') :
    if Region.wanted o (yielded ops a.tmps) = true then Oper.wp P o a w K Q else E0 := by
  have hw : Region.wanted o (yielded ops a.tmps) = true := by simp [Region.wanted, hg]
  rw [if_pos hw]
  obtain ⟨i, hi', hz, hsz, hby⟩ := info_parts E.row
  obtain ⟨ad, cap, rfl, hc, hn, hlt, hcell⟩ := hL
  have hBk : ∀ k, v.ownBlock = some k → B ≤ k := fun k hk => (hown.lt k hk).1
  cases ad with
  | none =>
    have hc0 := hn rfl
    have hl0 : ys = [] := List.eq_nil_of_length_eq_zero (by omega)
    subst hl0
    subst hc0
    have hr := run_append_owned_none (P := P) w B t o.type e i 1 E.sl hi' v n cells hown
    have hx' : a.eval x = .slice none 0 0 := by simpa using hx
    unfold Oper.wp
    simp [execOp, ho, resolve, invoke, builtin, hs, hx', hr, Result.andThen]
    exact h v w (by simpa [u32s] using hown) hbl (World.grownBy.refl _ _)
  | some ad =>
    refine wp_append_own _ s x t ho B e i _ 1 4 E.sl hi' hz hsz hby E.zs E.pos v n cells hs hown ad ys.length cap (u32s ys) hx (by simp [u32s]) ?_ (u32s_one _) (by unfold maxLen; omega) (by omega) hB ?_
    · intro j u hj
      have hjl : j < ys.length := by
        have := (List.getElem?_eq_some_iff.1 hj).1
        simpa [u32s] using this
      obtain ⟨b, off, ha, _, _, hcc, _⟩ := hcell (by intro e; subst e; simp at hjl)
      simp only [Option.some.injEq] at ha
      subst ha
      rw [Addr.add_lit, hcc j hjl, ← hj]
      simp [u32s, List.getD_eq_getElem?_getD, hjl]
    · intro v' w' h1 h2 _
      exact h v' w' h1 (hbl.grown h2 hB hBk) h2

theorem own_empty (w : World) (B : Nat) (T : TypeId) (hB : B ≤ w.heap.size) : (w.alloc (.cells #[] T)).ownsRow B T 1 (.slice (some ⟨w.heap.size, 0, none⟩) 0 0) 0 [] :=
  World.ownsRow_made w #[] 0 hB (Nat.zero_le _) rfl

theorem limbs_set {lo hi : Nat} {w : World} {v : Value} {xs : List Nat} {g : Nat} {T : TypeId} {cs : List Value} (h : Limbs lo hi w v xs) (h0 : 0 < lo) (hb : BoxIs w g T cs) (hT : T ≠ 86) (i : Nat) (u : Value) : Limbs lo hi (w.setCell ⟨g, i, none⟩ u) v xs :=
  Limbs.grown h h0 (grown_set w ⟨g, i, none⟩ u) (by rintro g' e; cases e; exact ⟨_, _, _, hb, hT⟩)

theorem far {w9 w8 : World} {o : Obj} {row : Option Nat} {a : Addr} {v : Value} (hg : (w9.alloc o).grownBy w8 row) (hc : w9.cell? a = some v) (hne : some a.block ≠ row) : w8.cell? a = some v :=
  hg.cell (by rw [World.cell?_of_block (Below.heap_alloc _ _ _ (World.block_lt_of_cell? _ _ hc))]; exact hc) hne

/-- what a copied integer's box and limbs are, where its box is made last -/
theorem copied_new {B : Nat} {w0 w9 : World} {n1 : Bool} {ad9 : Option Addr} {cap9 : Nat} {xs : List Nat} (hx : ∀ x, x ∈ xs → x < 4294967296) (ho : w9.ownsRow B 86 1 (.slice ad9 xs.length cap9) xs.length (u32s xs)) (hb : Below B w0 w9) (hB : B ≤ w9.heap.size) :
    BoxIs (w9.alloc (.cells #[.bool n1, .slice ad9 xs.length cap9] 29)) w9.heap.size 29 [.bool n1, .slice ad9 xs.length cap9] ∧
      Limbs B (w9.alloc (.cells #[.bool n1, .slice ad9 xs.length cap9] 29)).heap.size (w9.alloc (.cells #[.bool n1, .slice ad9 xs.length cap9] 29)) (.slice ad9 xs.length cap9) xs ∧
      Below B w0 (w9.alloc (.cells #[.bool n1, .slice ad9 xs.length cap9] 29)) := by
  have hal : Below w9.heap.size w9 (w9.alloc (.cells #[.bool n1, .slice ad9 xs.length cap9] 29)) := (Below.refl _ _).alloc (Nat.le_refl _) _
  exact ⟨BoxIs.new _ _ _, ((Limbs.ofOwn ho hx).below hal (Nat.le_refl _)).wide (Nat.le_refl _) hal.size, hb.alloc hB _⟩

theorem copied_set {B g : Nat} {w0 w9 : World} {n1 : Bool} {ad9 : Option Addr} {cap9 : Nat} {xs : List Nat} {cs : List Value} (hx : ∀ x, x ∈ xs → x < 4294967296) (ho : w9.ownsRow B 86 1 (.slice ad9 xs.length cap9) xs.length (u32s xs)) (hb : Below B w0 w9) (h0 : 0 < B) (hg : B ≤ g) (hcs : cs = [.bool false, .slice none 0 0]) (hbx : BoxIs w9 g 29 cs) :
    BoxIs ((w9.setCell ⟨g, 0, none⟩ (.bool n1)).setCell ⟨g, 1, none⟩ (.slice ad9 xs.length cap9)) g 29 [.bool n1, .slice ad9 xs.length cap9] ∧
      Limbs B ((w9.setCell ⟨g, 0, none⟩ (.bool n1)).setCell ⟨g, 1, none⟩ (.slice ad9 xs.length cap9)).heap.size ((w9.setCell ⟨g, 0, none⟩ (.bool n1)).setCell ⟨g, 1, none⟩ (.slice ad9 xs.length cap9)) (.slice ad9 xs.length cap9) xs ∧
      Below B w0 ((w9.setCell ⟨g, 0, none⟩ (.bool n1)).setCell ⟨g, 1, none⟩ (.slice ad9 xs.length cap9)) := by
  subst hcs
  have hl := limbs_set (limbs_set (Limbs.ofOwn ho hx) h0 hbx (by decide) 0 (.bool n1)) h0 (hbx.set 0 (.bool n1)) (by decide) 1 (.slice ad9 xs.length cap9)
  exact ⟨(hbx.set 0 (.bool n1)).set 1 (.slice ad9 xs.length cap9), hl.wide (Nat.le_refl _) (by simp), (hb.setCell (p := ⟨g, 0, none⟩) hg _).setCell (p := ⟨g, 1, none⟩) hg _⟩

set_option maxRecDepth 100000 in
set_option maxHeartbeats 3200000 in
theorem copyAll_any (lo h1 : Nat) (v : Value) (l : List (Bool × List Nat × Bool × List Nat)) (w : World) (h : Fracs lo h1 w v l) (hhi : h1 ≤ w.heap.size) (hlen : l.length ≤ 1073741824) (hln : ∀ x, x ∈ l → x.2.1.length ≤ 1073741824 ∧ x.2.2.2.length ≤ 1073741824) (hw0 : 0 < w.heap.size) :
    Calls Try.prog 27 #[v] w fun e w' => Below w.heap.size w w' ∧ ∃ r, e = .returned r ∧ OutRow w.heap.size w' r l := by
  obtain ⟨ad, cap, rfl⟩ := RowOf.shape h
  have HH := hid h
  have HLN := hid hln
  clear h hln
  go_enter Try.func27, Try.ntmps27
  go_wp2
  go_loopg [3, 9] l.length (fun gk ov t wr => ∃ (k : Nat) (out : List (Bool × List Nat × Bool × List Nat)), gk = l.length - k ∧ t = .int .i64 k ∧ k ≤ l.length ∧ out = l.take k ∧ OutRow w.heap.size wr ov out ∧ Below w.heap.size w wr)
  case atStart => exact ⟨0, [], rfl, rfl, Nat.zero_le _, rfl, OutRow.nil, Below.refl _ _⟩
  case round =>
    obtain ⟨k, out, hgk, rfl, hk, hot, hout, hbel⟩ := hrel
    have hol : out.length = k := by rw [hot, List.length_take]; omega
    have HO := hid hot
    have HOL := hid hol
    have hol2 : out.length ≤ l.length := by omega
    clear hot hol
    have HGK := hid hgk
    have HOUT := hid hout
    clear hgk hout
    by_cases hkl : k < l.length
    · obtain ⟨⟨n1, xs, n2, ys⟩, hx⟩ : ∃ x, l[k]? = some x := ⟨_, List.getElem?_eq_getElem hkl⟩
      obtain ⟨b, off, cp, q, p, hsh, hc, _, hbh, hq, hp, c0, c1, c2, c3⟩ := (HH.out.below hbel hhi).at k _ hx
      simp only [Value.slice.injEq, true_and] at hsh
      obtain ⟨rfl, rfl⟩ := hsh
      dsimp only at hq hp c0 c1 c2 c3
      have hmem := List.mem_of_getElem? hx
      obtain ⟨hx1, hx2⟩ := HLN.out _ hmem
      dsimp only at hx1 hx2
      have hsz := hbel.size
      obtain ⟨ad3, cap3, rfl⟩ := hq.shape
      obtain ⟨ad4, cap4, rfl⟩ := hp.shape
      obtain ⟨hal, bp, hsz1⟩ := boxA wr #[.bool n1, .slice ad3 xs.length cap3, .bool n2, .slice ad4 ys.length cap4] 35
      have f1 : (k : Int) < (l.length : Int) := by omega
      have hB1 := hbel.trans (hal.mono hsz)
      have htake : l.take (k + 1) = out ++ [(n1, xs, n2, ys)] := by
        rw [HO.out, List.take_add_one, hx]; rfl
      have HT := hid htake
      have hout1 := HOUT.out.later hal
      have hq1 := hq.below hal (Nat.le_trans hhi hsz)
      have hp1 := hp.below hal (Nat.le_trans hhi hsz)
      obtain ⟨W1, hW1⟩ : ∃ W1, wr.alloc (.cells #[.bool n1, .slice ad3 xs.length cap3, .bool n2, .slice ad4 ys.length cap4] 35) = W1 := ⟨_, rfl⟩
      have HQ := hid hq1
      have HXL := hid hq1.lt
      have HP := hid hp1
      clear hx hal hq hp htake hmem hq1 hp1
      go_upto_region 5 with (fail)
      clear c0 c1 c2 c3
      rw [hW1] at bp hB1 hout1 hsz1 HQ HP
      clear hW1
      have HOUT1 := hid hout1
      have hbW : Below W1.heap.size W1 W1 := Below.refl _ _
      obtain ⟨⟨e0, e1, e2, e3⟩, j0, j1, j2, j3⟩ := bp.four
      go_cut [6] (fun t6 w' => ∃ g6 r6, t6 = .pointer (some ⟨g6, 0, none⟩) ∧ W1.heap.size ≤ g6 ∧ BoxIs w' g6 29 [.bool n1, r6] ∧ Limbs W1.heap.size w'.heap.size w' r6 xs ∧ Below W1.heap.size W1 w')
      case first =>
        have hk1 := fun (w9 : World) (hb9 : Below W1.heap.size W1 w9) => (hb9.cell (p := ⟨wr.heap.size, 0, none⟩) (by show wr.heap.size < _; omega)).trans e0
        have hk2 := fun (w9 : World) (hb9 : Below W1.heap.size W1 w9) => (hb9.cell (p := ⟨wr.heap.size, 1, none⟩) (by show wr.heap.size < _; omega)).trans e1
        have HK1 := hid hk1
        have HK2 := hid hk2
        have hh1 : h1 ≤ W1.heap.size := by omega
        have hal1 : Below W1.heap.size W1 (W1.drew.alloc (.cells #[] 86)) := hbW.drew.alloc (Nat.le_refl _) _
        have hal2 : Below W1.heap.size W1 ((W1.drew.alloc (.cells #[] 86)).alloc (.cells #[.bool false, .slice none 0 0] 29)) := hal1.alloc (by simp) _
        have hal3 : Below W1.heap.size W1 (W1.drew.alloc (.cells #[.bool false, .slice none 0 0] 29)) := hbW.drew.alloc (Nat.le_refl _) _
        have hal4 : Below W1.heap.size W1 ((W1.drew.alloc (.cells #[.bool false, .slice none 0 0] 29)).alloc (.cells #[] 86)) := hal3.alloc (by simp) _
        have ow1 := own_empty W1.drew W1.heap.size 86 (Nat.le_refl _)
        have ow2 := ow1.alloc (.cells #[.bool false, .slice none 0 0] 29)
        have ow3 := own_empty (W1.drew.alloc (.cells #[.bool false, .slice none 0 0] 29)) W1.heap.size 86 (by simp)
        have bx2 : BoxIs ((W1.drew.alloc (.cells #[] 86)).alloc (.cells #[.bool false, .slice none 0 0] 29)) (W1.heap.size + 1) 29 [.bool false, .slice none 0 0] := by
          have := BoxIs.new (W1.drew.alloc (.cells #[] 86)) #[.bool false, .slice none 0 0] 29
          simpa using this
        have bx3 : BoxIs ((W1.drew.alloc (.cells #[.bool false, .slice none 0 0] 29)).alloc (.cells #[] 86)) W1.heap.size 29 [.bool false, .slice none 0 0] := (BoxIs.new W1.drew #[.bool false, .slice none 0 0] 29).alloc _
        have BX2 := hid bx2
        have BX3 := hid bx3
        have d1 : wr.heap.size ≠ W1.heap.size := by omega
        have d2 : wr.heap.size ≠ W1.heap.size + 1 := by omega
        have d3 : W1.heap.size ≠ wr.heap.size := by omega
        have d4 : W1.heap.size + 1 ≠ wr.heap.size := by omega
        have LQ := fun (w9 : World) (hb9 : Below W1.heap.size W1 w9) => HQ.out.below hb9 hh1
        have HLQ := hid LQ
        have HAL1 := hid hal1
        have HAL2 := hid hal2
        have HAL4 := hid hal4
        have OW1 := hid ow1
        have OW2 := hid ow2
        have OW3 := hid ow3
        clear bx2 bx3 hk1 hk2 bp hB1 hsz1 LQ hal1 hal2 hal3 hal4 ow1 ow2 ow3
        go_region_held3 (fun w' => w'.cell? ⟨wr.heap.size, 0, none⟩ = some (.bool n1) ∧ w'.cell? ⟨wr.heap.size, 1, none⟩ = some (.slice ad3 xs.length cap3))
          (go_keep)
          (((first
            | (refine step_limbs (w := W1.drew.alloc (.cells #[] 86)) elemNat rfl _ _ rfl W1.heap.size 0 (.slice (some ⟨W1.heap.size, 0, none⟩) 0 0) _ [] xs _ _ OW1.out (HLQ.out _ HAL1.out) rfl rfl (by omega) HAL1.out HAL1.out.size ?_; intro v' w9 ho9 hb9 hg9)
            | (refine step_limbs (w := (W1.drew.alloc (.cells #[] 86)).alloc (.cells #[.bool false, .slice none 0 0] 29)) elemNat rfl _ _ rfl W1.heap.size 0 (.slice (some ⟨W1.heap.size, 0, none⟩) 0 0) _ [] xs _ _ OW2.out (HLQ.out _ HAL2.out) rfl rfl (by omega) HAL2.out HAL2.out.size ?_; intro v' w9 ho9 hb9 hg9; obtain ⟨e4, e5, f4, f5⟩ := (BX2.out.grown hg9 (own_type OW2.out 29 (by decide))).two)
            | (refine step_limbs (w := (W1.drew.alloc (.cells #[.bool false, .slice none 0 0] 29)).alloc (.cells #[] 86)) elemNat rfl _ _ rfl W1.heap.size 0 (.slice (some ⟨W1.heap.size + 1, 0, none⟩) 0 0) _ [] xs _ _ (by simpa using OW3.out) (HLQ.out _ HAL4.out) rfl rfl (by omega) HAL4.out HAL4.out.size ?_; intro v' w9 ho9 hb9 hg9; obtain ⟨e4, e5, f4, f5⟩ := (BX3.out.grown hg9 (own_type (w := (W1.drew.alloc (.cells #[.bool false, .slice none 0 0] 29)).alloc (.cells #[] 86)) (by simpa using OW3.out) 29 (by decide))).two)); have m0 := HK1.out _ hb9; have m1 := HK2.out _ hb9; obtain ⟨ad9, cap9, rfl⟩ := own_shape ho9))
        · have HB9 := hid hb9.size
          have FIN := hid (copied_new (n1 := n1) HXL.out (by simpa using ho9) hb9 hb9.size)
          clear ho9 hb9 hg9 m0 m1
          go_wp2
          go_meet
          case rel => exact ⟨_, _, rfl, HB9.out, FIN.out.1, FIN.out.2.1, FIN.out.2.2⟩
        · have FIN := hid (copied_set (n1 := n1) HXL.out (by simpa using ho9) hb9 (by omega) (Nat.le_succ _) rfl (BX2.out.grown hg9 (own_type OW2.out 29 (by decide))))
          clear ho9 hb9 hg9 m0 m1 e4 e5 f4 f5
          go_wp2
          go_meet
          case rel => exact ⟨_, _, rfl, Nat.le_succ _, FIN.out.1, FIN.out.2.1, FIN.out.2.2⟩
        · have FIN := hid (copied_set (n1 := n1) HXL.out (by simpa using ho9) hb9 (by omega) (Nat.le_refl _) rfl (BX3.out.grown hg9 (own_type (w := (W1.drew.alloc (.cells #[.bool false, .slice none 0 0] 29)).alloc (.cells #[] 86)) (by simpa using OW3.out) 29 (by decide))))
          clear ho9 hb9 hg9 m0 m1 e4 e5 f4 f5
          go_wp2
          go_meet
          case rel => exact ⟨_, _, rfl, Nat.le_refl _, FIN.out.1, FIN.out.2.1, FIN.out.2.2⟩
      case rest =>
        obtain ⟨g6, r6, rfl, hg6W, hb6, hl6, hbc⟩ := hcut
        obtain ⟨ad6, cap6, rfl⟩ := hl6.shape
        have hcsz := hbc.size
        have HB1 := hid hB1.size
        have HBC2 := hid (Nat.le_trans hB1.size hcsz)
        have bpc := bp.later hbc
        obtain ⟨⟨p0, p1, p2, p3⟩, _⟩ := bpc.four
        obtain ⟨q0, q1, _, _⟩ := hb6.two
        have g6l := hb6.lt
        have hoc := HOUT1.out.later hbc
        have hpc := HP.out.below hbc (by omega)
        have hb1c := hB1.trans (hbc.mono hB1.size)
        have k2 := fun (w9 : World) (hb9 : Below wc.heap.size wc w9) => (hb9.cell (p := ⟨wr.heap.size, 2, none⟩) (by show wr.heap.size < _; omega)).trans p2
        have k3 := fun (w9 : World) (hb9 : Below wc.heap.size wc w9) => (hb9.cell (p := ⟨wr.heap.size, 3, none⟩) (by show wr.heap.size < _; omega)).trans p3
        have k4 := fun (w9 : World) (hb9 : Below wc.heap.size wc w9) => (hb9.cell (p := ⟨g6, 0, none⟩) (by show g6 < _; omega)).trans q0
        have k5 := fun (w9 : World) (hb9 : Below wc.heap.size wc w9) => (hb9.cell (p := ⟨g6, 1, none⟩) (by show g6 < _; omega)).trans q1
        have K2 := hid k2
        have K3 := hid k3
        have K4 := hid k4
        have K5 := hid k5
        have hal1 : Below wc.heap.size wc (wc.drew.alloc (.cells #[] 86)) := ((Below.refl _ _).drew).alloc (Nat.le_refl _) _
        have ow1 := own_empty wc.drew wc.heap.size 86 (Nat.le_refl _)
        have hp1 := hpc.below hal1 (show h1 ≤ wc.heap.size by omega)
        have HAL1 := hid hal1
        have OW1 := hid ow1
        have HP1 := hid hp1
        have HOC := hid hoc
        have HL6 := hid hl6
        have HYL := hid hpc.lt
        have HB1C := hid hb1c
        have nb : ∀ b, wr.heap.size ≤ b → some b ≠ u3.ownBlock := by
          intro b hb e
          obtain ⟨cs, h, _⟩ := HOUT.out
          have := (h.lt b e.symm).2
          omega
        obtain ⟨ad5, cap5, rfl⟩ := hoc.shape
        have NB1 := hid (nb wr.heap.size (Nat.le_refl _))
        have NB2 := hid (nb g6 (by omega))
        clear nb
        clear k2 k3 k4 k5 bpc p0 p1 e0 e1 e2 e3 j0 j1 j2 j3 hb6 hl6 hoc hpc hout1 hal1 ow1 hp1 hb1c hbc hbW bp
        go_wp2
        go_region_held3 (fun w' => w'.cell? ⟨wr.heap.size, 2, none⟩ = some (.bool n2) ∧ w'.cell? ⟨wr.heap.size, 3, none⟩ = some (.slice ad4 ys.length cap4) ∧ w'.cell? ⟨g6, 0, none⟩ = some (.bool n1) ∧ w'.cell? ⟨g6, 1, none⟩ = some (.slice ad6 xs.length cap6))
          (go_keep)
          ((first
            | (refine step_limbs (w := wc.drew.alloc (.cells #[] 86)) elemNat rfl _ _ rfl wc.heap.size 0 (.slice (some ⟨wc.heap.size, 0, none⟩) 0 0) _ [] ys _ _ OW1.out HP1.out rfl rfl (by omega) HAL1.out HAL1.out.size ?_; intro v' w9 ho9 hb9 hg9; have m2 := K2.out _ hb9; have m3 := K3.out _ hb9; have m4 := K4.out _ hb9; have m5 := K5.out _ hb9; obtain ⟨ad9, cap9, rfl⟩ := own_shape ho9; have HO9 := hid ho9; have HB9 := hid hb9; obtain ⟨cs9, o1, o2, o3, o4⟩ := HOC.out.later hb9; have O1 := hid o1; have O4 := hid o4; have HE9 := hid (HB1C.out.trans (hb9.mono HB1C.out.size)); clear ho9 hg9 o1 o4)
            | (refine step_own (w := w9) elemRat rfl _ _ rfl w.heap.size out.length 1 1 _ cs9.flatten #[.bool n1, .slice ad6 xs.length cap6, .bool n2, .slice ad9 ys.length cap9] O1.out rfl rfl rfl (by simp [Value.oneCell']) (by omega) (by decide) (by unfold maxLen; omega) HE9.out HE9.out.size ?_; intro g8 c8 w8 ho8 hb8 hg8; have z2 := far hg8 m2 NB1.out; have z3 := far hg8 m3 NB1.out; have z4 := far hg8 m4 NB2.out; have z5 := far hg8 m5 NB2.out; have HSN := hid (OutRow.snoc (x := (n1, xs, n2, ys)) hw0 O1.out o2 o3 O4.out (((HL6.out.below HB9.out (Nat.le_refl _)).wide HB1.out HB9.out.size)) (((Limbs.ofOwn (by simpa using HO9.out) HYL.out).wide HBC2.out (Nat.le_refl _))) ho8 hg8); have HB8 := hid hb8; clear ho8 hb8 hg8)))
        go_wp2
        go_roundg (l.length - (k + 1))
        case measure => have := HGK.out; omega
        case rel => exact ⟨k + 1, _, rfl, by go_num, by omega, HT.out.symm, HSN.out, HB8.out⟩
    · obtain rfl : k = l.length := by omega
      have ho := HO.out
      rw [List.take_length] at ho
      obtain ⟨ad5, cap5, rfl⟩ := HOUT.out.shape
      go_wp2
      go_ret
      exact ⟨hbel, _, rfl, ho ▸ HOUT.out⟩
end Go.Proofs.Ytjjidmgeladicaa
