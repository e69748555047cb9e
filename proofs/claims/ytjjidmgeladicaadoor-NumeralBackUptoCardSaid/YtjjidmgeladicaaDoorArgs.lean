/- How the arguments of these laws read: integers with their limbs; and that they read so behind the call. -/
import Derived.Test.YtjjidmgeladicaaDoorNames
import Derived.Carry
import Derived.Lib.SmallJoins
import Derived.ChangeSlices
import Derived.JoinedCond
namespace Go.Proofs.YtjjidmgeladicaaDoor
open Go.ChangeShapes Go.WideShapes Go.ChangeAt Go.RowKit

theorem laidOut : laidOutB Tryd.prog = true := by kernel_rfl

/-- a reading carried on, where nothing that was there has turned -/
theorem stays {H : Type} {enc : TypeId × Value → H} {t : TypeId} (hr : Tryd.prog.readableRec t = true) (hrow : t < Tryd.prog.types.size) {W W' : World} {v : Value} {d : DataW H} {ps : List MemPlace}
    (h : DataW.Trod enc Tryd.prog W 0 (fun _ => true) true t v d ps) (hb : Below W.heap.size W W') (hlt : ∀ x ∈ ps, x.block < W.heap.size) :
    DataW.Trod enc Tryd.prog W' 0 (fun b => decide (b < W.heap.size)) true t v d ps :=
  Below.trod laidOut hr hrow h hb hlt

/-- the row's last step, where nothing of what was there has turned -/
theorem post_stays {H : Type} {enc : TypeId × Value → H} {P : Program} {f : Func} {s : ChangeSpec} {apart fresh handsOn : Bool} {W W' : World} {args : Array Value} {v : Value} {ds gs : List (DataW H)} {before pa pv : List MemPlace}
    (hW : DataW.Whole enc P f.params.toList s.vars apart W args.toList ds gs before) (hB : Below W.heap.size W W')
    (hres : ∀ (b : Nat) (sp : Nat → Bool) (hd : Bool), DataW.TrodAll enc P W' b sp hd f.resultTypes.toList (v.resultList f.resultTypes.size) (s.fn H (ds ++ gs)).results [])
    (hargs : DataW.TrodAll enc P W' 0 (fun b => decide (b < W.heap.size)) true f.params.toList args.toList (s.fn H (ds ++ gs)).args pa)
    (hvars : DataW.TrodVars enc P W' (fun b => decide (b < W.heap.size)) s.vars (s.fn H (ds ++ gs)).vars pv) :
    s.post enc P f apart fresh handsOn false W args v W' := by
  have hold : ∀ p, p ∈ before → (fun b => decide (b < W.heap.size)) p.block = true := by
    intro p hp
    have := hW.lt p hp
    simpa using this
  refine ⟨ds, gs, before, [], pa, pv, hW, hres _ _ _, hargs, hvars, hB.frame _, fun h => ?_⟩
  cases h

theorem bulk_len {H : Type} (l : List (DataW H)) : l.length ≤ Rows.uptoBulkAll l := by
  induction l with
  | nil => simp [Rows.uptoBulkAll]
  | cons x r ih =>
    have : 1 ≤ Rows.uptoBulk x := by
      cases x with
      | lit l => cases l <;> simp [Rows.uptoBulk]
      | nil => simp [Rows.uptoBulk]
      | ptr d => simp [Rows.uptoBulk]
      | slice elems spare => simp [Rows.uptoBulk]
      | agg parts => simp [Rows.uptoBulk]
      | iface t d => simp [Rows.uptoBulk]
      | map entries => simp [Rows.uptoBulk]
      | held h => simp [Rows.uptoBulk]
    simp only [Rows.uptoBulkAll, List.length_cons]
    omega

theorem u32_wf (n : Int) (h : (Lit.int .u32 n).wf = true) : 0 ≤ n ∧ n < 4294967296 := by
  have : 0 ≤ n ∧ n ≤ 4294967295 := by simpa [Lit.wf, IntKind.min, IntKind.max, IntKind.signed, IntKind.bits] using h
  omega

theorem cells_u32 : Tryd.prog.cellsOf 96 = 1 := by kernel_rfl
theorem cells_int : Tryd.prog.cellsOf 40 = 2 := by kernel_rfl
/-- limbs that came in -/
theorem open_limbs {H : Type} {enc : TypeId × Value → H} {W : World} {held : Bool} {fuel : Nat} {v : Value} {x : DataW H × List MemPlace} (h : DataW.trod enc Tryd.prog W 0 (fun _ => true) held fuel 38 [v] = some x) :
    ∃ xs, Limbs 0 W.heap.size W v xs ∧ xs.length ≤ Rows.uptoBulk x.1 := by
  rcases Go.ChangeShapes.open_ints Tryd.underlying38 Tryd.underlying96 cells_u32 h with ⟨h1, rfl⟩ | ⟨a, len, cap, zs, h1, _, hlc, _, hlen, rfl, hcell, hwf⟩
  · obtain rfl : v = .slice none 0 0 := by simpa using h1
    exact ⟨[], Limbs.nil, by simp⟩
  · obtain rfl : v = .slice (some a) len cap := by simpa using h1
    rw [if_pos rfl] at hlen
    have hxl : ((zs.take len).map Int.toNat).length = len := by simp [hlen]; omega
    refine ⟨(zs.take len).map Int.toNat, ⟨some a, cap, by rw [hxl], by rw [hxl]; exact hlc, by simp, ?_, ?_⟩, ?_⟩
    · intro y hy
      obtain ⟨n, hn, rfl⟩ := List.mem_map.1 hy
      have := u32_wf n (hwf n (List.mem_of_mem_take hn))
      omega
    · intro hne
      have hpos : 0 < len := by rw [← hxl]; exact List.length_pos_iff.2 hne
      have h0 := hcell 0 (by omega)
      obtain ⟨b, off, sp⟩ := a
      have hs : sp = none := by
        have ha : (⟨b, off, sp⟩ : Addr).add 0 = ⟨b, off, sp⟩ := rfl
        rw [ha] at h0
        unfold World.cell? at h0
        split at h0
        · cases sp with
          | none => rfl
          | some _ => simp at h0
        · cases h0
      subst hs
      refine ⟨b, off, rfl, Nat.zero_le _, ?_, ?_, by omega⟩
      · exact World.block_lt_of_cell? W ⟨b, off, none⟩ h0
      · intro i hi
        rw [hxl] at hi
        have h2 := hcell i (by omega)
        rw [Addr.add_lit] at h2
        rw [h2]
        have hm : zs.getD i 0 ∈ zs := by
          rw [List.getD_eq_getElem?_getD, List.getElem?_eq_getElem (by omega)]
          exact List.getElem_mem _
        have := u32_wf _ (hwf _ hm)
        have e : ((zs.take len).map Int.toNat).getD i 0 = (zs.getD i 0).toNat := by
          simp [List.getD_eq_getElem?_getD, hi, show i < zs.length by omega]
        rw [e]
        congr 2
        omega
    · have := bulk_len (Go.ChangeShapes.lits (H := H) .u32 (zs.take len))
      simp only [Rows.uptoBulk]
      rw [hxl]
      have e : (Go.ChangeShapes.lits (H := H) .u32 (zs.take len)).length = len := by simp [Go.ChangeShapes.lits, hlen]; omega
      omega

set_option maxRecDepth 100000 in
/-- an integer that came in -/
theorem open_intarg {H : Type} {enc : TypeId × Value → H} {W : World} {held : Bool} {r : Reach} {b0 : Nat} {v : Value} {d : DataW H} {p : List MemPlace} (hv : Value.okWide Tryd.prog W r b0 40 v)
    (h : DataW.Trod enc Tryd.prog W 0 (fun _ => true) held 40 v d p) :
    ∃ neg v1 xs, v = .agg #[.bool neg, v1] ∧ Limbs 0 W.heap.size W v1 xs ∧ xs.length ≤ Rows.uptoBulk d := by
  obtain ⟨c0, c1, y0, y1, m, rfl, rfl, rfl, hy0, hy1⟩ := Go.Joins.open_agg2 Tryd.underlying40 (by kernel_rfl) cells_int hv h
  obtain ⟨neg, e0, rfl⟩ := DataW.trod_bool Tryd.underlying4 hy0
  obtain rfl : c0 = .bool neg := by simpa using e0
  obtain ⟨xs, hx, hl⟩ := open_limbs hy1
  refine ⟨neg, c1, xs, rfl, hx, ?_⟩
  simp only [Rows.uptoBulk, Rows.uptoBulkAll]
  omega
end Go.Proofs.YtjjidmgeladicaaDoor
