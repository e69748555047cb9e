/- Two calls whose answers come out of contracts: a row printed, two texts joined. -/
import Derived.Test.YtoijfckollafhaaGreatSmA
import Derived.Test.YtoijfckollafhaaGreatPrintRow
import Derived.KernelRfl
namespace Go.Ev
open Go.Proofs Go.Proofs.YtoijfckollafhaaGreat Go.RowKit

theorem lrel_u32 {φ : Ren} : ∀ {xs : List Nat} {us : List Value}, LRel φ (xs.map fun (x : Nat) => AV.int .u32 x) us → us = xs.map fun (x : Nat) => Value.int .u32 x
  | [], _, h => by cases h; rfl
  | x :: xs, _, h => by
    cases h with
    | cons h t => cases h; rw [lrel_u32 t]; rfl

theorem rd_lt {ro n0 : Nat} {φ : Ren} {σ : Hp} {w : World} (hS : SRel ro n0 φ σ w) {A off n : Nat} {r : List AV} (hr : rdCells σ A off n = some r) {B s m : Nat} (hφ : φ A = some (B, s, m)) : B < w.heap.size := by
  unfold rdCells at hr
  split at hr
  · rename_i cs hA
    obtain ⟨x, h1, h2⟩ := hS.h A _ hA
    rw [hφ] at h1; cases h1
    exact h2.lt
  · cases hr

theorem limbs_of {ro n0 : Nat} {φ : Ren} {σ : Hp} {w : World} (hS : SRel ro n0 φ σ w) {A off len cap : Nat} {ex : Bool} {u : Value} (hv : VRel φ (.sl A off len cap 1 ex) u) (xs : List Nat) (_h0 : xs ≠ []) (hl : xs.length = len) (hlt : ∀ x ∈ xs, x < 4294967296)
    (hr : rdCells σ A off len = some (xs.map fun (x : Nat) => AV.int .u32 x)) : Limbs 0 w.heap.size w u xs := by
  obtain ⟨B, s, m, us, hφ, hL, hlen, hcell⟩ := rd_cells hS hr
  have hB := rd_lt hS hr hφ
  cases hv with
  | sl hφ' h1 h2 h3 h4 =>
    rw [hφ] at hφ'; cases hφ'
    subst hl
    have hus := lrel_u32 hL
    subst hus
    refine ⟨_, _, rfl, Nat.le_trans h1 h2, (fun h => nomatch h), hlt, fun _ => ⟨B, s + off, rfl, Nat.zero_le _, hB, fun i hi => ?_, fun h => absurd h (by omega)⟩⟩
    refine hcell i _ ?_
    rw [List.getElem?_map, List.getD_eq_getElem?_getD, List.getElem?_eq_getElem hi]
    rfl

theorem en238_man : EntOk Tryz.prog en238 := by
  refine ent_of_calls (val := .tuple #[.string ⟨#[45, 50, 32, 49]⟩, .int .i64 0]) rfl (fun ψ => .tup (.cons (.str _) (.cons (.int _ _) .nil))) fun ψ w us hS hargs => ?_
  cases hargs with
  | cons hv ht =>
    cases ht
    rename_i u
    have hr : rdCells (baseHp en238.m 0 en238.blks .lf) 0 0 8 = some [.bool true, .sl 1 0 1 1 1 false, .bool false, .sl 2 0 1 1 1 false, .bool false, .sl 3 0 1 1 1 false, .bool false, .sl 4 0 1 1 1 false] := rfl
    obtain ⟨B, s, m, us, hφ, hL, hlen, hcell⟩ := rd_cells hS hr
    have hB := rd_lt hS hr hφ
    cases hL with
    | cons a1 hL => cases a1; cases hL with
    | cons q1 hL => cases hL with
    | cons a2 hL => cases a2; cases hL with
    | cons p1 hL => cases hL with
    | cons a3 hL => cases a3; cases hL with
    | cons q2 hL => cases hL with
    | cons a4 hL => cases a4; cases hL with
    | cons p2 hL =>
      cases hL
      rename_i uq1 up1 uq2 up2
      have l1 := limbs_of hS q1 [2] (by simp) rfl (by decide) rfl
      have l2 := limbs_of hS p1 [1] (by simp) rfl (by decide) rfl
      have l3 := limbs_of hS q2 [1] (by simp) rfl (by decide) rfl
      have l4 := limbs_of hS p2 [1] (by simp) rfl (by decide) rfl
      have hF : Fracs 0 w.heap.size w u [(true, [2], false, [1]), (false, [1], false, [1])] := by
        cases hv with
        | sl hφ' h1 h2 h3 h4 =>
          rw [hφ] at hφ'; cases hφ'
          refine ⟨_, _, rfl, Nat.le_trans h1 h2, (fun h => nomatch h), fun _ => ⟨B, s + 0, rfl, Nat.zero_le _, hB, fun i x hx => ?_⟩⟩
          match i, hx with
          | 0, hx =>
            cases hx
            refine ⟨[.bool true, uq1, .bool false, up1], rfl, ⟨uq1, up1, rfl, l1, l2⟩, fun j hj => ?_⟩
            match j, hj with
            | 0, _ => exact hcell 0 _ rfl
            | 1, _ => exact hcell 1 _ rfl
            | 2, _ => exact hcell 2 _ rfl
            | 3, _ => exact hcell 3 _ rfl
          | 1, hx =>
            cases hx
            refine ⟨[.bool false, uq2, .bool false, up2], rfl, ⟨uq2, up2, rfl, l3, l4⟩, fun j hj => ?_⟩
            match j, hj with
            | 0, _ => exact hcell 4 _ rfl
            | 1, _ => exact hcell 5 _ rfl
            | 2, _ => exact hcell 6 _ rfl
            | 3, _ => exact hcell 7 _ rfl
          | n + 2, hx => cases hx
      refine (printRow_any 0 w.heap.size u _ w hF (Nat.le_refl _) (by decide)).mono ?_
      rintro e w' ⟨hb, h⟩
      rcases h with ⟨⟨x, hx, hz⟩, _⟩ | ⟨_, rfl⟩
      · exfalso
        simp only [List.mem_cons, List.not_mem_nil, or_false] at hx
        rcases hx with rfl | rfl <;> exact absurd hz (by decide)
      · exact ⟨by rw [show strOf (rowB [(true, [2], false, [1]), (false, [1], false, [1])]) = ⟨#[45, 50, 32, 49]⟩ from by kernel_rfl], hb⟩

theorem en239_man : EntOk Tryz.prog en239 := by
  refine ent_of_calls (val := .string ⟨#[45, 50, 32, 49, 59, 32, 45, 50, 32, 49]⟩) rfl (fun ψ => .str _) fun ψ w us hS hargs => ?_
  cases hargs with
  | cons hv ht => cases ht with
  | cons hs ht =>
    cases ht
    cases hs
    have hr : rdCells (baseHp en239.m 0 en239.blks .lf) 0 0 2 = some [.str ⟨#[45, 50, 32, 49]⟩, .str ⟨#[45, 50, 32, 49]⟩] := rfl
    obtain ⟨B, s, m, us, hφ, hL, hlen, hcell⟩ := rd_cells hS hr
    have hB := rd_lt hS hr hφ
    cases hL with
    | cons a1 hL => cases a1; cases hL with
    | cons a2 hL =>
      cases a2
      cases hL
      cases hv with
      | sl hφ' h1 h2 h3 h4 =>
        rw [hφ] at hφ'; cases hφ'
        rename_i c
        refine (Tryz.strings_Join B (s + 0) c [⟨#[45, 50, 32, 49]⟩, ⟨#[45, 50, 32, 49]⟩] ⟨#[59, 32]⟩ w (fun j x hx => ?_) hB (by decide) (Nat.le_trans h1 h2) (by decide)).mono ?_
        · match j, hx with
          | 0, hx => cases hx; exact hcell 0 _ rfl
          | 1, hx => cases hx; exact hcell 1 _ rfl
          | n + 2, hx => cases hx
        · rintro e w' ⟨rfl, hb⟩
          exact ⟨by congr 1, hb⟩
end Go.Ev
