/- The law similelaw02.NumeralWords: its walk. -/
import Derived.Test.YtjjidmgeladicaaDoorIter
import Derived.Test.YtjjidmgeladicaaDoorAwake
import Derived.IntWalk
namespace Go.Proofs.YtjjidmgeladicaaDoor
open Go.RowKit Go.Shelf
attribute [local go_sem] Oper.semAt_some

theorem run_equalIn_func_nil (P : Program) (w : World) (d : Nat) (t : TypeId) (ps rs : Array TypeId) (vd : Bool) (f : Fn) (fi bd : Array Value) (h : P.underlying t = some (.func ps rs vd)) : (Op.equalIn (d + 1) t (.func f fi bd) .nilFunc).run P w = .ok false w := by
  simp [Op.equalIn, run_underlying h]
theorem eq_nilFunc (w : World) (f : Nat) (bd : Array Value) : (binOp BinOp.eql 25 (Value.func (Fn.func f) #[] bd) Value.nilFunc).run Tryd.prog w = .ok (.bool false) w := by
  have h : (Op.equal 25 (Value.func (Fn.func f) #[] bd) Value.nilFunc).run Tryd.prog w = .ok false w := run_equalIn_func_nil _ w 9999 25 _ _ _ _ _ _ Tryd.underlying25
  simp only [binOp]
  simp [h]
attribute [local go_sem] eq_nilFunc

def encW (x : Nat × ByteArray) : Array Value := #[.int .i64 (x.1 : Nat), .string x.2]

theorem words_in (s : ByteArray) (w : World) :
    Calls Tryd.prog 8 #[.string s] w fun e w' => e = .returned (.func (.func 32) #[] #[.pointer (some ⟨w.heap.size, 0, none⟩)]) ∧ w' = w.alloc (.cells #[.string s] 9) := by
  go_enter Tryd.func8, Tryd.ntmps8
  go_wp2
  go_ret
  exact ⟨rfl, rfl⟩

theorem words_stops (n : Nat) (hn : 1 ≤ n) (Bs n0 : Nat) (s : ByteArray) (hs : s.size ≤ 400000000) (w : World) (hBs : Bs < n0) (hn2 : 2 ≤ n0) (hn0 : n0 ≤ w.heap.size) (hc : w.cell? ⟨Bs, 0, none⟩ = some (.string s)) (hT : Lib.Utf8Tabs 0 1 w) :
    SeqStopsK Fence.wide n Tryd.prog 32 #[.pointer (some ⟨Bs, 0, none⟩)] encW (Below n0) (fun ys => ys = wordsOf s) (fun pre => pre <+: wordsOf s) (wordsOf s).length w := fun l J Jx W hW hJ _ hY h0 => by
  have hc' := (hW.cell (p := ⟨Bs, 0, none⟩) (by show Bs < w.heap.size; omega)).trans hc
  exact words1_in n hn l Bs n0 s hs hBs hn2 J Jx W (Nat.le_trans hn0 hW.size) hJ hY hc' (Tabs.below hT hW (by omega)) h0

theorem ownFrom_or {β : Type} {B : Nat} {I I' : β → World → Prop} (h : OwnFrom B I) (h' : OwnFrom B I') : OwnFrom B (fun s W => I s W ∨ I' s W) := fun s W W' row hs hg hr => hs.imp (fun a => h s W W' row a hg hr) (fun a => h' s W W' row a hg hr)

theorem prefix_snoc {α : Type} {pre P : List α} {x y : α} (h : pre <+: P) (hy : P[pre.length]? = some y) : pre ++ [x] <+: P ↔ x = y := by
  obtain ⟨t, rfl⟩ := h
  have hy' : t[0]? = some y := by rwa [List.getElem?_append_right (Nat.le_refl _), Nat.sub_self] at hy
  constructor
  · rintro ⟨u, hu⟩
    rw [List.append_assoc] at hu
    have := List.append_cancel_left hu
    subst this
    simpa using hy'
  · rintro rfl
    cases t with
    | nil => simp at hy'
    | cons z t =>
      simp at hy'
      subst hy'
      exact ⟨t, by simp⟩

theorem wds_len (s : ByteArray) : ∀ (L : List (Nat × Nat)) (fr : Option Nat), (wds s fr L).length ≤ L.length + (if fr = none then 0 else 1) := by
  intro L
  induction L with
  | nil => intro fr; cases fr <;> simp [wds, flushW]
  | cons p L ih =>
    intro fr
    obtain ⟨i, r⟩ := p
    rw [wds]
    split
    · have := ih none
      cases fr <;> simp [flushW] at this ⊢ <;> omega
    · have := ih (some (fr.getD i))
      simp at this ⊢
      omega

theorem wordsOf_len (s : ByteArray) : (wordsOf s).length ≤ s.size := by
  have h1 := wds_len s (placesAt s 0) none
  have h2 := placesAt_len s 0
  simp at h1
  unfold wordsOf
  omega

/-- a mark among the deferred calls: a range over a function has run -/
def mark (D : Nat) : Deferred := { target := .collected D, args := #[] }

/-- a function leaves with marks alone among its deferred calls -/
theorem leaves_marks {F : Fence} {n : Nat} {P : Program} {fn : Func} {tmps : Array Value} {R : Ending → World → Prop} : ∀ (Ds : List Nat) (W : World) (lo : Nat), lo ≤ W.heap.size → Ds.Nodup →
    (∀ D, D ∈ Ds → lo ≤ D ∧ W.heap[D]? = some (.deferred (some []))) → (∀ W', Below lo W W' → ∃ v, (results fn tmps).run P W' = .ok v W' ∧ R (.returned v) W') → LeavesInM F n P fn tmps R (Ds.map mark) .returning W := by
  intro Ds
  induction Ds with
  | nil => intro W lo _ _ _ h; exact h W (Below.refl _ _)
  | cons D Ds ih =>
    intro W lo hlo hnd hD h
    obtain ⟨h1, h2⟩ := hD D (List.mem_cons_self ..)
    obtain ⟨h3, h4⟩ := List.nodup_cons.1 hnd
    have hb : Below lo W (W.putObj D (.deferred none)) := (Below.refl lo W).grown (grownBy_putObj' W D _) hlo (fun k e => by cases e; exact h1)
    refine ⟨by simp, .inl ⟨D, _, rfl, run_takeDeferred h2, ?_⟩⟩
    refine ih _ lo (Nat.le_trans hlo hb.size) h4 (fun D' hD' => ?_) (fun W' hW' => h W' (hb.trans hW'))
    obtain ⟨h5, h6⟩ := hD D' (List.mem_cons_of_mem _ hD')
    exact ⟨h5, ((grownBy_putObj' W D (.deferred none)).block D' (Array.getElem?_eq_some_iff.1 h6).1 (fun e => h3 (by cases e; exact hD'))).trans h6⟩

/-- what a counter's box says -/
def cnt (v : Value) (w : World) : Nat := match v with
  | .pointer (some p) => match w.cell? p with
    | some (.int _ k) => k.toNat
    | _ => 0
  | _ => 0

theorem tabs_size {w : World} (h : Lib.Utf8Tabs 0 1 w) : 2 ≤ w.heap.size := by
  have h1 := (h.2 0 (by decide)).1
  have : 1 < w.heap.size := by
    by_cases hh : 1 < w.heap.size
    · exact hh
    · exfalso
      simp [World.cell?, Array.getElem?_eq_none (show w.heap.size ≤ 1 by omega)] at h1
  omega

theorem cnt_box {W : World} {B : Nat} {t : TypeId} {q : IntKind} {k : Int} (h : Boxed W B t (.int q k)) : cnt (.pointer (some ⟨B, 0, none⟩)) W = k.toNat := by
  simp [cnt, h.cell]

/-- the next round begins: its counter's box, and one mark more -/
theorem rel_next {Wb wr wi W : World} {k D : Nat} {Ds : List Nat} (t : TypeId) (hk : k < 2) (hbi : Wb.heap.size ≤ wr.heap.size) (hwz : wi.heap.size = wr.heap.size + 1) (hbI : Below wr.heap.size wr wi) (hgI : Below Wb.heap.size Wb wi) (hBW : Below wr.heap.size wi W)
    (hD : wi.heap.size ≤ D) (hK : W.heap[D]? = some (.deferred (some []))) (hnd : Ds.Nodup) (hDs : ∀ D, D ∈ Ds → Wb.heap.size ≤ D ∧ wr.heap[D]? = some (.deferred (some []))) :
    ∃ (k' rb' : Nat) (Ds' : List Nat), Value.pointer (some ⟨W.heap.size, 0, none⟩) = .pointer (some ⟨rb', 0, none⟩) ∧ Boxed (W.alloc (.cells #[.int .i64 ((k : Int) + 1)] t)) rb' t (.int .i64 k') ∧ k' ≤ 2 ∧ Wb.heap.size ≤ rb' ∧ Below Wb.heap.size Wb (W.alloc (.cells #[.int .i64 ((k : Int) + 1)] t)) ∧
      (mark D :: Ds.map mark) = Ds'.map mark ∧ Ds'.Nodup ∧ (∀ D, D ∈ Ds' → Wb.heap.size ≤ D ∧ (W.alloc (.cells #[.int .i64 ((k : Int) + 1)] t)).heap[D]? = some (.deferred (some []))) := by
  have hsiz := hBW.size
  have hlt : D < W.heap.size := (Array.getElem?_eq_some_iff.1 hK).1
  refine ⟨k + 1, W.heap.size, D :: Ds, rfl, Boxed.new W t _, by omega, by omega, (hgI.trans (hBW.mono hbi)).alloc (by omega) _, rfl, ?_, ?_⟩
  · refine List.nodup_cons.2 ⟨fun h => ?_, hnd⟩
    have := (Array.getElem?_eq_some_iff.1 (hDs D h).2).1
    omega
  · intro D' hD'
    rcases List.mem_cons.1 hD' with rfl | h
    · exact ⟨by omega, (Below.heap_alloc W _ _ hlt).trans hK⟩
    · obtain ⟨h1, h2⟩ := hDs D' h
      have h3 := (Array.getElem?_eq_some_iff.1 h2).1
      exact ⟨h1, (Below.heap_alloc W _ _ (by omega)).trans ((hBW.block D' h3).trans ((hbI.block D' h3).trans h2))⟩

set_option maxRecDepth 100000 in
set_option maxHeartbeats 4000000 in
theorem words_walk (s : ByteArray) (hs : s.size ≤ 400000000) (stop : Int) (w : World) (hT : Lib.Utf8Tabs 0 1 w) :
    Calls Tryd.prog 3 #[.string s, .int .i64 stop] w fun e w' => e = .returned (.bool true) ∧ Below w.heap.size w w' := by
  have h2 := tabs_size hT
  have Q1 := hid fun w => words02_any s w hs
  have Q2 := hid fun w => words_in s w
  have QA := hid fun w => awake_any w
  have HT := hid hT
  clear hT
  refine (callsIn_wide (n := 3)).1 ?_
  refine callsIn_of_wp_marks Tryd.func3 rfl trivial ?_ rfl
  simp only [Tryd.ntmps3, List.size_toArray, List.length_cons, List.length_nil, Nat.reduceAdd, Nat.reduceSub, Array.replicate_succ, Array.replicate_zero, List.push_toArray, List.append_toArray, List.nil_append, List.cons_append]
  have b1 := Boxed.new w 3 (.int .i64 stop)
  have b2 := Boxed.new (w.alloc (.cells #[.int .i64 stop] 3)) 4 (.bool false)
  have hB := ((Below.refl w.heap.size w).alloc (Nat.le_refl _) (.cells #[.int .i64 stop] 3)).alloc (Nat.le_trans (Nat.le_succ _) (by rw [World.size_alloc]; exact Nat.le_refl _)) (.cells #[.bool false] 4)
  rw [World.size_alloc] at b2
  gi_wp2_with (refine ⟨trivial, ?_⟩; gi_at_call 7; refine (callsIn_wide.2 (Q1.out _)).mono ?_; clear Q1; rintro e w1 ⟨hb1, r, rfl, hrow⟩; obtain ⟨ad, cap, rfl⟩ := RowOf.shape hrow)
  gi_wp2_with (refine ⟨trivial, ?_⟩; gi_at_call 8; refine (callsIn_wide.2 (Q2.out _)).mono ?_; clear Q2; rintro e w2 ⟨rfl, rfl⟩)
  obtain ⟨Wb, hWb⟩ : ∃ Wb, (w1.alloc (.cells #[.slice ad (wordsOf s).length cap] 22)).alloc (.cells #[.string s] 9) = Wb := ⟨_, rfl⟩
  have hN : Wb.heap.size = w1.heap.size + 2 := by rw [← hWb]; simp
  have hN1 : w.heap.size + 2 ≤ w1.heap.size := by have := hb1.size; simpa using this
  have gst : Boxed Wb w.heap.size 3 (.int .i64 stop) := by
    rw [← hWb]; exact Boxed.alloc (Boxed.alloc ((hb1.block _ (by simp; omega)).trans (b1.alloc _)) _) _
  have grs : Boxed Wb (w.heap.size + 1) 4 (.bool false) := by
    rw [← hWb]; exact Boxed.alloc (Boxed.alloc ((hb1.block _ (by simp)).trans b2) _) _
  have gwt : Boxed Wb w1.heap.size 22 (.slice ad (wordsOf s).length cap) := by
    rw [← hWb]; exact Boxed.alloc (Boxed.new w1 _ _) _
  have gsr : Boxed Wb (w1.heap.size + 1) 9 (.string s) := by
    have := Boxed.new (w1.alloc (.cells #[.slice ad (wordsOf s).length cap] 22)) 9 (.string s)
    rw [World.size_alloc] at this
    rw [← hWb]; exact this
  have gbw : Below w.heap.size w Wb := by
    rw [← hWb]
    exact (hB.trans (hb1.mono (by simp; omega))).alloc (by omega) _ |>.alloc (by simp; omega) _
  have gT : Lib.Utf8Tabs 0 1 Wb := Tabs.below HT.out gbw h2
  have grow : RowOf 2 WordR 0 w1.heap.size Wb (.slice ad (wordsOf s).length cap) (wordsOf s) := by
    rw [← hWb]
    exact (hrow.keep (fun b _ hb => (Below.heap_alloc (w1.alloc _) _ _ (by simp; omega)).trans (Below.heap_alloc w1 _ _ (by omega))) (fun _ _ h => h)).wide (Nat.zero_le _) (Nat.le_refl _) (fun _ _ h => h)
  clear hrow hb1 b1 b2 hB
  have GST := hid gst
  have GRS := hid grs
  have GWT := hid gwt
  have GSR := hid gsr
  have GBW := hid gbw
  have GT := hid gT
  have GROW := hid grow
  have HN := hid hN
  clear gst grs gwt gsr gbw gT grow hN
  gi_wp2
  rw [hWb]
  clear hWb
  have hM : Wb.heap.size = w1.heap.size + 2 := HN.out
  have bR := Boxed.new Wb 3 (.int .i64 0)
  refine wpIn_loop (fun a' wr => ∃ (u7 u8 u9 u10 u17 u18 u19 u20 u21 u24 u25 u26 u27 u28 u29 u30 u31 u32 u33 u34 u35 u36 u37 u38 u39 u40 u41 u42 u43 u44 u45 u46 u47 u48 u49 u50 u51 u52 u53 u54 u55 u56 u57 u58 u59 u60 u61 u62 u63 u64 u65 u66 u67 u68 : Value) (ds : List Deferred), (∃ (k rb : Nat) (Ds : List Nat), u7 = .pointer (some ⟨rb, 0, none⟩) ∧ Boxed wr rb 3 (.int .i64 k) ∧ k ≤ 2 ∧ Wb.heap.size ≤ rb ∧ Below Wb.heap.size Wb wr ∧
      ds = Ds.map mark ∧ Ds.Nodup ∧ (∀ D, D ∈ Ds → Wb.heap.size ≤ D ∧ wr.heap[D]? = some (.deferred (some [])))) ∧ a' = { tmps := #[Value.string s, .int .i64 stop, undef, .pointer (some ⟨w.heap.size, 0, none⟩), .pointer (some ⟨w.heap.size + 1, 0, none⟩), .pointer (some ⟨w1.heap.size, 0, none⟩), Value.func (Fn.func 32) #[] #[Value.pointer (some ⟨w1.heap.size + 1, 0, none⟩)], u7, u8, u9, u10, .string s, .slice ad (wordsOf s).length cap, .string s, Value.func (Fn.func 32) #[] #[Value.pointer (some ⟨w1.heap.size + 1, 0, none⟩)], Value.func (Fn.func 32) #[] #[Value.pointer (some ⟨w1.heap.size + 1, 0, none⟩)], .bool false, u17, u18, u19, u20, u21, undef, undef, u24, u25, u26, u27, u28, u29, u30, u31, u32, u33, u34, u35, u36, u37, u38, u39, u40, u41, u42, u43, u44, u45, u46, u47, u48, u49, u50, u51, u52, u53, u54, u55, u56, u57, u58, u59, u60, u61, u62, u63, u64, u65, u66, u67, u68, undef], defers := ds }) (fun a' wr => 2 - cnt (a'.tmps.getD 7 undef) wr) ?atStart ?round
  case atStart =>
    (repeat apply Exists.intro)
    refine ⟨?rel0, rfl⟩
    exact ⟨0, Wb.heap.size, [], by rw [HN.out], bR, by omega, Nat.le_refl _, (Below.refl _ _).alloc (Nat.le_refl _) _, rfl, List.nodup_nil, by simp⟩
  case round =>
    rintro _ wr ⟨u7, u8, u9, u10, u17, u18, u19, u20, u21, u24, u25, u26, u27, u28, u29, u30, u31, u32, u33, u34, u35, u36, u37, u38, u39, u40, u41, u42, u43, u44, u45, u46, u47, u48, u49, u50, u51, u52, u53, u54, u55, u56, u57, u58, u59, u60, u61, u62, u63, u64, u65, u66, u67, u68, ds, ⟨k, rb, Ds, rfl, hbx, hk2, hrb, hbel, rfl, hnd, hDs⟩, rfl⟩
    try dsimp only
    have HDS := hid hDs
    clear hDs
    clear bR
    by_cases hk : k < 2
    · have c7 := hbx.cell
      have f1 : (k : Int) < 2 := by omega
      have c5 : wr.cell? ⟨w1.heap.size, 0, none⟩ = some (.slice ad (wordsOf s).length cap) := (hbel.cell (p := ⟨w1.heap.size, 0, none⟩) (by show w1.heap.size < _; omega)).trans GWT.out.cell
      gi_wp2
      have hbi := hbel.size
      have gsr := (hbel.cell (p := ⟨w1.heap.size + 1, 0, none⟩) (by show w1.heap.size + 1 < _; omega)).trans GSR.out.cell
      have bI := Boxed.new wr 3 (.int .i64 0)
      have hbx1 := hbx.alloc (.cells #[.int .i64 0] 3)
      have hbI : Below wr.heap.size wr (wr.alloc (.cells #[.int .i64 0] 3)) := (Below.refl _ _).alloc (Nat.le_refl _) _
      obtain ⟨wi, hwi⟩ : ∃ wi, wr.alloc (.cells #[.int .i64 0] 3) = wi := ⟨_, rfl⟩
      have hwz : wi.heap.size = wr.heap.size + 1 := by rw [← hwi]; simp
      rw [hwi] at bI hbx1 hbI ⊢
      clear hwi
      have hgI : Below Wb.heap.size Wb wi := hbel.trans (hbI.mono hbi)
      have gT : Lib.Utf8Tabs 0 1 wi := Tabs.below GT.out hgI (by omega)
      have gsr1 : wi.cell? ⟨w1.heap.size + 1, 0, none⟩ = some (.string s) := (hbI.cell (p := ⟨w1.heap.size + 1, 0, none⟩) (by show w1.heap.size + 1 < _; omega)).trans gsr
      clear c5 gsr
      refine wpIn_rangeFunc_ownF rfl (by omega) (gf := 32) (lb := #[.pointer (some ⟨w1.heap.size + 1, 0, none⟩)]) rfl trivial (enters_of Tryd.func32 (by kernel_rfl) rfl)
        (words_stops 2 (by omega) (w1.heap.size + 1) wr.heap.size s hs wi (by omega) (by omega) (by omega) gsr1 gT) belowK_t (belowK_b (by omega)) (Below.refl _ _) (fun _ => rfl)
        (fun pre W => (Boxed W wr.heap.size 3 (.int .i64 (pre.length : Nat)) ∧ Below wr.heap.size wi W) ∧ pre <+: wordsOf s)
        (fun c pre W => (((Boxed W wr.heap.size 3 (.int .i64 (pre.length : Nat)) ∧ Below wr.heap.size wi W) ∧ pre <+: wordsOf s) ∧ c = .exit 2 ∧ k = 0 ∧ ((pre.length : Nat) : Int) = stop) ∨ (c = .ret ∧ ¬ pre <+: wordsOf s))
        (OwnFrom.and (OwnFrom.and (Own.from (boxed_own _ _ _) _) (ownFrom_below (by omega) (by omega))) (ownFrom_pure _ _))
        (fun c => ownFrom_or (OwnFrom.and (OwnFrom.and (OwnFrom.and (Own.from (boxed_own _ _ _) _) (ownFrom_below (by omega) (by omega))) (ownFrom_pure _ _)) (ownFrom_pure _ _)) (ownFrom_pure _ _))
        ⟨⟨bI, Below.refl _ _⟩, List.nil_prefix⟩ (fun x => { tmps := #[Value.string s, .int .i64 stop, undef, .pointer (some ⟨w.heap.size, 0, none⟩), .pointer (some ⟨w.heap.size + 1, 0, none⟩), .pointer (some ⟨w1.heap.size, 0, none⟩), Value.func (Fn.func 32) #[] #[Value.pointer (some ⟨w1.heap.size + 1, 0, none⟩)],
          .pointer (some ⟨rb, 0, none⟩), .pointer (some ⟨wr.heap.size, 0, none⟩), .int .i64 (x.1 : Nat), .string x.2, .string s, .slice ad (wordsOf s).length cap, .string s, Value.func (Fn.func 32) #[] #[Value.pointer (some ⟨w1.heap.size + 1, 0, none⟩)], Value.func (Fn.func 32) #[] #[Value.pointer (some ⟨w1.heap.size + 1, 0, none⟩)], .bool false, .int .i64 k, .bool true, u19, u20, Value.func (Fn.func 32) #[] #[Value.pointer (some ⟨w1.heap.size + 1, 0, none⟩)], .int .i64 (x.1 : Nat), .string x.2,
          u24, u25, u26, u27, u28, u29, u30, u31, u32, u33, u34, u35, u36, u37, u38, u39, u40, u41, u42, u43, u44, u45, u46, u47, u48, u49, u50, u51, u52, u53, u54, u55, u56, u57, u58, u59, u60, u61, u62, u63, u64, u65, u66, u67, u68, undef], defers := [] }) ?assign ?body ?done ?stop
      case assign =>
        intro l x W K hK
        dsimp only [encW]
        gi_wp2
        exact hK
      case body =>
        as_aux_lemma =>
        rintro l pre x W ⟨⟨hI, hBW⟩, hpre⟩ hlen
        obtain ⟨y, hy⟩ : ∃ y, (wordsOf s)[pre.length]? = some y := ⟨_, List.getElem?_eq_getElem hlen⟩
        have hpx := fun x => prefix_snoc (x := x) hpre hy
        have HPX := hid hpx
        have HPRE := hid hpre
        obtain ⟨b, off, cp, cs, hsl, hcp, _, hbh, hcl, hcs, hel⟩ := GROW.out.at _ y hy
        simp only [Value.slice.injEq, true_and] at hsl
        obtain ⟨rfl, rfl⟩ := hsl
        have toW : ∀ q : Addr, q.block < Wb.heap.size → W.cell? q = Wb.cell? q := fun q hq => (hBW.cell (by omega)).trans (hgI.cell hq)
        have d0 : W.cell? ⟨b, off + pre.length * 2, none⟩ = some (.int .i64 (y.1 : Nat)) := (toW ⟨b, off + pre.length * 2, none⟩ (by show b < _; omega)).trans ((hel 0 (by omega)).trans (by rw [show cs = wordC y from hcs]; rfl))
        have d1 : W.cell? ⟨b, off + pre.length * 2 + 1, none⟩ = some (.string y.2) := (toW ⟨b, off + pre.length * 2 + 1, none⟩ (by show b < _; omega)).trans ((hel 1 (by omega)).trans (by rw [show cs = wordC y from hcs]; rfl))
        have dw : W.cell? ⟨w1.heap.size, 0, none⟩ = some (.slice (some ⟨b, off, none⟩) (wordsOf s).length cap) := (toW ⟨w1.heap.size, 0, none⟩ (by show w1.heap.size < _; omega)).trans GWT.out.cell
        have ds : W.cell? ⟨w.heap.size, 0, none⟩ = some (.int .i64 stop) := (toW ⟨w.heap.size, 0, none⟩ (by show w.heap.size < _; omega)).trans GST.out.cell
        have hrbl := hbx.lt
        have dr : W.cell? ⟨rb, 0, none⟩ = some (.int .i64 k) := (hBW.cell (p := ⟨rb, 0, none⟩) hrbl).trans hbx1.cell
        have di := hI.cell
        have dif := hI.frozen
        have drf : W.frozen? ⟨w.heap.size + 1, 0, none⟩ = false := by
          have := (hBW.block (w.heap.size + 1) (by omega)).trans ((hgI.block (w.heap.size + 1) (by omega)).trans GRS.out)
          exact Boxed.frozen this
        have dre : W.cell? ⟨w.heap.size + 1, 0, none⟩ = some (.bool false) := (toW ⟨w.heap.size + 1, 0, none⟩ (by show w.heap.size + 1 < _; omega)).trans GRS.out.cell
        have n1 : rb ≠ wr.heap.size := by omega
        have n2 : w.heap.size ≠ wr.heap.size := by omega
        have f3 : ((pre.length : Nat) : Int) < ((wordsOf s).length : Nat) := by omega
        have hsiz := hBW.size
        have hwl := wordsOf_len s
        have hw : IntKind.i64.wrap ((pre.length : Int) + 1) = (pre.length : Int) + 1 := IntWalk.i64_in _ (by omega)
        have e : (((pre ++ [x]).length : Nat) : Int) = (pre.length : Int) + 1 := by simp
        have hset : Boxed (W.setCell ⟨wr.heap.size, 0, none⟩ (.int .i64 ((pre.length : Int) + 1))) wr.heap.size 3 (.int .i64 ((pre ++ [x]).length : Nat)) := by
          rw [e]; exact hI.set _
        have HSET := hid hset
        clear hwl e hset
        clear hpx hpre hel toW hcs hy hlen gT gsr1 hgI
        by_cases hx1 : x.1 = y.1
        · by_cases hx2 : x.2 = y.2
          · obtain rfl : x = y := Prod.ext hx1 hx2
            clear hx1 hx2
            have hpf : pre ++ [x] <+: wordsOf s := (HPX.out x).2 rfl
            by_cases hst : k = 0 ∧ ((pre.length : Nat) : Int) + 1 = stop
            · obtain ⟨rfl, rfl⟩ := hst
              gi_wp2
              exact ⟨KeepsOthers.setCell _ _ _, .inl ⟨⟨⟨HSET.out, hBW.setCell (p := ⟨wr.heap.size, 0, none⟩) (Nat.le_refl _) _⟩, hpf⟩, by simp⟩⟩
            · by_cases hk0 : k = 0
              · subst hk0
                have hst2 : ¬ ((pre.length : Nat) : Int) + 1 = stop := fun h => hst ⟨rfl, h⟩
                gi_wp2
                exact ⟨KeepsOthers.setCell _ _ _, (Below.refl _ _).setCell (p := ⟨wr.heap.size, 0, none⟩) (Nat.le_refl _) _, ⟨HSET.out, hBW.setCell (p := ⟨wr.heap.size, 0, none⟩) (Nat.le_refl _) _⟩, hpf⟩
              · obtain rfl : k = 1 := by omega
                gi_wp2
                exact ⟨KeepsOthers.setCell _ _ _, (Below.refl _ _).setCell (p := ⟨wr.heap.size, 0, none⟩) (Nat.le_refl _) _, ⟨HSET.out, hBW.setCell (p := ⟨wr.heap.size, 0, none⟩) (Nat.le_refl _) _⟩, hpf⟩
          · have hx4 : (x.2.toList == y.2.toList) = false := beq_eq_false_iff_ne.2 (fun h => hx2 (ByteArray.ext (Array.toList_inj.1 (by rw [← Lib.toList_data, ← Lib.toList_data]; exact h))))
            gi_wp2
            exact ⟨KeepsOthers.setCell _ _ _, .inr ⟨rfl, fun h => hx2 (by rw [(HPX.out x).1 h])⟩⟩
        · have hx3 : ¬ ((x.1 : Int) = (y.1 : Int)) := by omega
          gi_wp2
          exact ⟨KeepsOthers.setCell _ _ _, .inr ⟨rfl, fun h => hx1 (by rw [(HPX.out x).1 h])⟩⟩
      case done =>
        as_aux_lemma =>
        rintro D ys W hD rfl ⟨⟨hI, hBW⟩, _⟩ hK
        have hrbl := hbx.lt
        have hsiz := hBW.size
        have toW : ∀ q : Addr, q.block < Wb.heap.size → W.cell? q = Wb.cell? q := fun q hq => (hBW.cell (by omega)).trans (hgI.cell hq)
        have dw : W.cell? ⟨w1.heap.size, 0, none⟩ = some (.slice ad (wordsOf s).length cap) := (toW ⟨w1.heap.size, 0, none⟩ (by show w1.heap.size < _; omega)).trans GWT.out.cell
        have dr : W.cell? ⟨rb, 0, none⟩ = some (.int .i64 k) := (hBW.cell (p := ⟨rb, 0, none⟩) hrbl).trans hbx1.cell
        have di := hI.cell
        have ds : W.cell? ⟨w.heap.size, 0, none⟩ = some (.int .i64 stop) := (toW ⟨w.heap.size, 0, none⟩ (by show w.heap.size < _; omega)).trans GST.out.cell
        clear toW gT gsr1
        gi_wp2
        refine ⟨?_, ?measure⟩
        · (repeat apply Exists.intro)
          exact ⟨rel_next _ hk hbi hwz hbI hgI hBW hD hK hnd HDS.out, rfl⟩
        case measure =>
          show 2 - cnt (.pointer (some ⟨W.heap.size, 0, none⟩)) _ < 2 - cnt (.pointer (some ⟨rb, 0, none⟩)) wr
          rw [cnt_box (Boxed.new W _ _), cnt_box hbx]
          omega
      case stop =>
        as_aux_lemma =>
        rintro D c pre W hD hpre (⟨⟨⟨hI, hBW⟩, _⟩, rfl, rfl, hst⟩ | ⟨rfl, hn⟩) hK
        rotate_left
        · exact absurd hpre hn
        subst hst
        have hrbl := hbx.lt
        have hsiz := hBW.size
        have toW : ∀ q : Addr, q.block < Wb.heap.size → W.cell? q = Wb.cell? q := fun q hq => (hBW.cell (by omega)).trans (hgI.cell hq)
        have dw : W.cell? ⟨w1.heap.size, 0, none⟩ = some (.slice ad (wordsOf s).length cap) := (toW ⟨w1.heap.size, 0, none⟩ (by show w1.heap.size < _; omega)).trans GWT.out.cell
        have dr : W.cell? ⟨rb, 0, none⟩ = some (.int .i64 (0 : Nat)) := (hBW.cell (p := ⟨rb, 0, none⟩) hrbl).trans hbx1.cell
        have di := hI.cell
        have ds : W.cell? ⟨w.heap.size, 0, none⟩ = some (.int .i64 (pre.length : Nat)) := (toW ⟨w.heap.size, 0, none⟩ (by show w.heap.size < _; omega)).trans GST.out.cell
        clear toW gT gsr1
        by_cases hpl : pre.length = (wordsOf s).length
        · have hpz : ((pre.length : Nat) : Int) = ((wordsOf s).length : Nat) := by omega
          gi_wp2
          refine ⟨?_, ?measure⟩
          · (repeat apply Exists.intro)
            exact ⟨rel_next (k := 0) _ hk hbi hwz hbI hgI hBW hD hK hnd HDS.out, rfl⟩
          case measure =>
            show 2 - cnt (.pointer (some ⟨W.heap.size, 0, none⟩)) _ < 2 - cnt (.pointer (some ⟨rb, 0, none⟩)) wr
            rw [cnt_box (Boxed.new W _ _), cnt_box hbx]
            omega
        · have hpz : ¬ ((pre.length : Nat) : Int) = ((wordsOf s).length : Nat) := by omega
          gi_wp2
          refine ⟨?_, ?measure⟩
          · (repeat apply Exists.intro)
            exact ⟨rel_next (k := 0) _ hk hbi hwz hbI hgI hBW hD hK hnd HDS.out, rfl⟩
          case measure =>
            show 2 - cnt (.pointer (some ⟨W.heap.size, 0, none⟩)) _ < 2 - cnt (.pointer (some ⟨rb, 0, none⟩)) wr
            rw [cnt_box (Boxed.new W _ _), cnt_box hbx]
            omega
    · obtain rfl : k = 2 := by omega
      have c7 := hbx.cell
      have hbi := hbel.size
      have gre : ∀ w9, Below wr.heap.size wr w9 → Boxed w9 (w.heap.size + 1) 4 (.bool false) := fun w9 h => (h.block _ (by omega)).trans ((hbel.block _ (by omega)).trans GRS.out)
      have GRE := hid gre
      clear gre
      gi_wp2_with (refine ⟨trivial, ?_⟩; gi_at_call 9; refine (callsIn_wide.2 (QA.out _)).mono ?_; rintro e w9 ⟨rfl, hb9⟩; have g9 := GRE.out w9 hb9; have g9c := g9.cell; have g9f := g9.frozen)
      refine leaves_marks Ds _ Wb.heap.size (by have := hb9.size; simp; omega) hnd (fun D hD => ?_) (fun W' hW' => ⟨.bool true, ?_, rfl, ?_⟩)
      · obtain ⟨h1, h2⟩ := HDS.out D hD
        have h3 := (Array.getElem?_eq_some_iff.1 h2).1
        refine ⟨h1, ?_⟩
        exact ((grownBy_setCell' w9 (w.heap.size + 1) (.bool true)).block D (by have := hb9.size; omega) (fun e => by cases e; omega)).trans ((hb9.block D h3).trans h2)
      · have hc5 : W'.cell? ⟨w.heap.size + 1, 0, none⟩ = some (.bool true) := (hW'.cell (p := ⟨w.heap.size + 1, 0, none⟩) (by show w.heap.size + 1 < _; omega)).trans (Boxed.set (.bool true) g9).cell
        simp [results, Tryd.f3, go_sem, hc5]
      · exact (((GBW.out.trans (hbel.mono (by omega))).trans (hb9.mono (by have := GBW.out.size; omega))).setCell (p := ⟨w.heap.size + 1, 0, none⟩) (Nat.le_succ _) _).trans (hW'.mono (by omega))
end Go.Proofs.YtjjidmgeladicaaDoor
