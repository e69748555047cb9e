/- numeral.number: the digits of a base make one number. -/
import Derived.Test.YtjjidmgeladicaaDoorNat1
namespace Go.Proofs.YtjjidmgeladicaaDoor
open Go.RowKit

/-- limbs times a word, and a carry -/
def mac (base : Nat) : List Nat → Nat → List Nat × Nat
  | [], c => ([], c)
  | x :: xs, c => ((c + x * base) % 4294967296 :: (mac base xs ((c + x * base) / 4294967296)).1, (mac base xs ((c + x * base) / 4294967296)).2)

theorem mac_snoc (base : Nat) (xs : List Nat) (x c : Nat) :
    mac base (xs ++ [x]) c = ((mac base xs c).1 ++ [((mac base xs c).2 + x * base) % 4294967296], ((mac base xs c).2 + x * base) / 4294967296) := by
  induction xs generalizing c with
  | nil => simp [mac]
  | cons y ys ih => simp [mac, ih]

theorem mac_len (base : Nat) (xs : List Nat) (c : Nat) : (mac base xs c).1.length = xs.length := by
  induction xs generalizing c with
  | nil => rfl
  | cons y ys ih => simp [mac, ih]

theorem mac_val (base : Nat) (xs : List Nat) (c : Nat) : natOf (mac base xs c).1 + 4294967296 ^ xs.length * (mac base xs c).2 = natOf xs * base + c := by
  induction xs generalizing c with
  | nil => simp [mac, natOf]
  | cons x xs ih =>
    have h := ih ((c + x * base) / 4294967296)
    have hd := Nat.div_add_mod (c + x * base) 4294967296
    simp only [mac, natOf, List.length_cons, Nat.pow_succ]
    generalize (mac base xs ((c + x * base) / 4294967296)).1 = A at *
    generalize (mac base xs ((c + x * base) / 4294967296)).2 = C at *
    generalize (c + x * base) / 4294967296 = q at *
    generalize (c + x * base) % 4294967296 = r at *
    have e1 : 4294967296 ^ xs.length * 4294967296 * C = 4294967296 * (4294967296 ^ xs.length * C) := by rw [Nat.mul_comm (4294967296 ^ xs.length), Nat.mul_assoc]
    rw [e1, Nat.add_assoc, ← Nat.mul_add, h, Nat.add_mul, Nat.mul_add, Nat.mul_assoc]
    omega

theorem mac_lt (base : Nat) (xs : List Nat) (c : Nat) : ∀ y, y ∈ (mac base xs c).1 → y < 4294967296 := by
  induction xs generalizing c with
  | nil => simp [mac]
  | cons x xs ih =>
    intro y hy
    simp only [mac, List.mem_cons] at hy
    rcases hy with rfl | hy
    · exact Nat.mod_lt _ (by decide)
    · exact ih _ y hy

/-- the number that digits of a base make -/
def ofDigits (base : Nat) (ds : List Nat) : Nat := ds.foldl (fun n d => n * base + d) 0

theorem ofDigits_snoc (base : Nat) (ds : List Nat) (d : Nat) : ofDigits base (ds ++ [d]) = ofDigits base ds * base + d := by simp [ofDigits]

/-- what the round does to the limbs -/
def macPush (base : Nat) (xs : List Nat) (d : Nat) : List Nat := if (mac base xs d).2 = 0 then (mac base xs d).1 else (mac base xs d).1 ++ [(mac base xs d).2]

theorem macPush_val (base : Nat) (xs : List Nat) (d : Nat) : natOf (macPush base xs d) = natOf xs * base + d := by
  have h := mac_val base xs d
  unfold macPush
  split
  · rename_i h0
    rw [h0] at h
    simpa using h
  · rw [natOf_snoc, mac_len, h]

set_option maxHeartbeats 400000 in
theorem number_any (lo hi : Nat) (v : Value) (ds : List Nat) (base : Nat) (w : World) (h : Limbs lo hi w v ds) (hl : ds.length ≤ 4294967296) (hb2 : 2 ≤ base) (hb36 : base ≤ 36) (hd : ∀ d, d ∈ ds → d < base) :
    Calls Tryd.prog 51 #[v, .int .u32 (base : Nat)] w fun e w' => ∃ r, e = .returned r ∧ Limbs w.heap.size w'.heap.size w' r (toL (ofDigits base ds)) ∧ Below w.heap.size w w' := by
  obtain ⟨ad, cap, rfl, hc, _, hx, hne⟩ := h
  have HD := hid hd
  have HX := hid hx
  have HN := hid hne
  clear hd hx hne
  go_enter Tryd.func51, Tryd.ntmps51
  go_wp2_with (at_make; refine wpl_make elemNat rfl _ _ rfl w.heap.size _ _ _ _ 0 (ds.length / 5 + 1) rfl rfl rfl (by omega) (by omega) (by omega) (by unfold maxLen; omega) (Below.refl _ _) (Nat.le_refl _) ?_)
  intro w1 ho1 hb1 _
  go_wp2
  go_loopw [5, 18] (fun n i wr => ∃ (k g c : Nat) (xs : List Nat), k ≤ ds.length ∧ i = .int .i64 k ∧ n = .slice (some ⟨g, 0, none⟩) xs.length c ∧ xs.length ≤ k ∧
      wr.ownsRow w.heap.size 96 1 (.slice (some ⟨g, 0, none⟩) xs.length c) xs.length (u32s xs) ∧ Below w.heap.size w wr ∧ (∀ x, x ∈ xs → x < 4294967296) ∧ natOf xs = ofDigits base (ds.take k))
    (fun _ i _ => ds.length - (intOf i).toNat)
  case atStart => exact ⟨0, _, _, [], Nat.zero_le _, rfl, rfl, Nat.zero_le _, ho1, hb1, by simp, by simp [natOf, ofDigits]⟩
  case round =>
    obtain ⟨k, g, c, xs, hk, rfl, rfl, hxl, hown, hbel, hxs, hval⟩ := hrel
    have HV := hid hval
    clear hval
    by_cases hlt : k < ds.length
    · obtain ⟨b, off, rfl, hlo, hhi, hcell, _⟩ := HN.out (by intro e; subst e; simp at hlt)
      have hcw := hcell k hlt
      obtain ⟨d, hd⟩ : ∃ d, d = ds.getD k 0 := ⟨_, rfl⟩
      have hdb : d < base := by rw [hd]; exact HD.out _ (by simp [List.getD_eq_getElem?_getD, hlt])
      have hcr : wr.cell? ⟨b, off + k, none⟩ = some (.int .u32 (d : Nat)) := by rw [hd]; exact (hbel.cell (World.block_lt_of_cell? w _ hcw)).trans hcw
      have HXS := hid hxs
      have HDD := hid hd
      clear hcell hcw hxs hd
      go_wp2
      obtain ⟨wo, hwo⟩ : ∃ wo : World, wo = wr := ⟨_, rfl⟩
      subst hwo
      clear hcr
      go_loopw [8, 26] (fun cv iv wr => ∃ (i c' : Nat) (cur : List Nat), i ≤ xs.length ∧ iv = .int .i64 i ∧ cv = .int .u64 c' ∧ c' ≤ 36 ∧ mac base (xs.take i) d = (cur, c') ∧
          wr.ownsRow w.heap.size 96 1 (.slice (some ⟨g, 0, none⟩) xs.length c) xs.length (u32s (cur ++ xs.drop i)) ∧ Below w.heap.size w wr)
        (fun _ i _ => xs.length - (intOf i).toNat)
      case atStart => exact ⟨0, d, [], Nat.zero_le _, rfl, rfl, by omega, rfl, hown, hbel⟩
      case round =>
        obtain ⟨i, c', cur, hi, rfl, rfl, hc36, hmac, hown', hbel'⟩ := hrel
        have HM := hid hmac
        clear hmac hown hbel
        by_cases hil : i < xs.length
        · have hcell := own_u32 hown' i hil
          obtain ⟨x, hx⟩ : ∃ x, x = xs.getD i 0 := ⟨_, rfl⟩
          have hx32 : x < 4294967296 := by rw [hx]; exact HXS.out _ (by simp [List.getD_eq_getElem?_getD, hil])
          have hlc : cur.length = i := by
            have := mac_len base (xs.take i) d
            rw [HM.out, List.length_take, Nat.min_eq_left hi] at this
            exact this
          have hgx : (cur ++ xs.drop i).getD i 0 = x := by
            rw [hx]
            simp [List.getD_eq_getElem?_getD, List.getElem?_append, hlc]
          rw [hgx] at hcell
          obtain ⟨hc1, hc2⟩ := hcell
          have hp : x * base ≤ 4294967295 * 36 := Nat.mul_le_mul (by omega) hb36
          have HX := hid hx
          have HG := hid hgx
          have HLC := hid hlc
          clear hx hgx hlc
          go_wp2
          have hs := hown'.stored i (.int .u32 (((c' + x * base) % 4294967296 : Nat) : Int))
          have hm' : mac base (xs.take (i + 1)) d = (cur ++ [(c' + x * base) % 4294967296], (c' + x * base) / 4294967296) := by
            rw [take_snoc xs 0 i hil, mac_snoc, HM.out, ← HX.out]
          have he : (u32s (cur ++ xs.drop i)).set i (.int .u32 (((c' + x * base) % 4294967296 : Nat) : Int)) = u32s (cur ++ [(c' + x * base) % 4294967296] ++ xs.drop (i + 1)) := by
            have hl1 : (u32s cur).length = i := by simpa [u32s] using HLC.out
            rw [List.drop_eq_getElem_cons hil]
            simp only [u32s, List.map_append, List.map_cons] at hl1 ⊢
            rw [List.set_append_right _ _ (by omega), hl1]
            simp
          rw [he] at hs
          refine ⟨⟨i + 1, (c' + x * base) / 4294967296, _, by omega, by go_num, by go_num, by omega, hm', ?_, ?_⟩, by simp [intOf]; omega⟩
          · have := hs.1
            simpa using this
          · exact hbel'.setCell (by exact (hown'.lt g rfl).1) _
        · obtain rfl : i = xs.length := by omega
          simp only [List.drop_length, List.append_nil] at hown'
          have HM2 : Hid (mac base xs d = (cur, c')) := by
            have := HM.out
            rwa [List.take_length] at this
          clear HM
          have hcl : cur.length = xs.length := by
            have := mac_len base xs d
            rwa [HM2.out] at this
          have htk : natOf (macPush base xs d) = ofDigits base (ds.take (k + 1)) := by
            rw [macPush_val, take_snoc ds 0 k hlt, ofDigits_snoc, HV.out, HDD.out]
          have hlt32 : ∀ y, y ∈ cur → y < 4294967296 := by
            have := mac_lt base xs d
            rwa [HM2.out] at this
          have HCL := hid hcl
          have HTK := hid htk
          have HLT := hid hlt32
          clear hcl htk hlt32
          by_cases hz : c' = 0
          · subst hz
            go_wp2
            have e : macPush base xs d = cur := by simp [macPush, HM2.out]
            refine ⟨⟨k + 1, g, c, cur, by omega, by go_num, by rw [HCL.out], by have := HCL.out; omega, by rw [HCL.out]; exact hown', hbel', HLT.out, by rw [← e]; exact HTK.out⟩, by simp [intOf]; omega⟩
          · go_wp2_with (at_builtin; go_loud (refine wpl_append1 elemNat rfl _ _ rfl w.heap.size xs.length 1 1 _ (u32s cur) _ hown' rfl rfl rfl (by simp [Value.oneCell']) (by omega) (by decide) (by unfold maxLen; omega) hbel' hbel'.size ?_))
            intro g' c2 w2 ho2 hb2 _
            go_wp2
            have e : macPush base xs d = cur ++ [c'] := by simp [macPush, HM2.out, hz]
            have hcl : (cur ++ [c']).length = xs.length + 1 := by simp [HCL.out]
            refine ⟨⟨k + 1, g', c2, cur ++ [c'], by omega, by go_num, by rw [hcl], by rw [hcl]; omega, ?_, hb2, ?_, by rw [← e]; exact HTK.out⟩, by simp [intOf]; omega⟩
            · rw [hcl]
              simpa [u32s] using ho2
            · intro y hy
              rcases List.mem_append.1 hy with h | h
              · exact HLT.out y h
              · simp at h
                omega
    · obtain rfl : k = ds.length := by omega
      rw [List.take_length] at HV
      have hN := norm_any w.heap.size wr.heap.size _ xs wr (Limbs.ofOwn hown hxs) (by omega)
      have HXS := hid hxs
      clear hxs
      go_wp2_with (go_at_call 75; refine hN.mono ?_; rintro e w' ⟨r, rfl, hr, hb⟩)
      go_ret
      rw [trimL_toL xs HXS.out, HV.out] at hr
      exact ⟨_, rfl, hr.wide hbel.size (Nat.le_refl _), hbel.trans (hb.mono hbel.size)⟩
end Go.Proofs.YtjjidmgeladicaaDoor
