/- numeral.Plain: a text with plain runes. -/
import Derived.Test.YtjjidmgeladicaaDoorBuild
namespace Go.Proofs.YtjjidmgeladicaaDoor
open Go.RowKit

/-- a rune, plain -/
def plainR (r : Nat) : Nat := if isMinus r then 45 else if isBar r then 47 else if isGap r then 32 else r
/-- runes' bytes -/
def encB (L : List Nat) : List UInt8 := L.flatMap fun (r : Nat) => Lib.encodeRune (r : Int)
def txt (L : List Nat) : ByteArray := ⟨(encB L).toArray⟩

theorem encB_snoc (L : List Nat) (r : Nat) : encB (L ++ [r]) = encB L ++ Lib.encodeRune (r : Int) := by simp [encB]

theorem encB_len (L : List Nat) : (encB L).length ≤ 4 * L.length := by
  induction L with
  | nil => simp [encB]
  | cons r L ih =>
    have h := Lib.runeCells_le (r : Int)
    rw [← Lib.byteCells_encodeRune] at h
    have : encB (r :: L) = Lib.encodeRune (r : Int) ++ encB L := by simp [encB]
    rw [this, List.length_append, List.length_cons]
    simp [Lib.byteCells] at h
    omega

theorem byteCells_append (a b : List UInt8) : Lib.byteCells (a ++ b) = Lib.byteCells a ++ Lib.byteCells b := by simp [Lib.byteCells]

theorem builder_iterAt {T e : TypeId} {B b : Nat} {bs : List Value} {w : World} (h : Lib.IsBuilder T e B b bs w) {k : Nat} {s : ByteArray} {pos : Nat} (hk : w.heap[k]? = some (.stringIter s pos)) (pos' : Nat) : Lib.IsBuilder T e B b bs (w.iterAt k s pos') := by
  have hh : ∀ p, Lib.BuilderAt T e B b p bs w → Lib.BuilderAt T e B b p bs (w.iterAt k s pos') := by
    rintro p ⟨h1, v, h2, h3, h4⟩
    refine ⟨h1, v, ?_, iterAt_own h3 hk pos', h4⟩
    rw [Lib.iterAt_other w k b s pos' (by intro e; subst e; rw [h2] at hk; cases hk)]
    exact h2
  exact h.elim (fun x => .inl (hh _ x)) (fun x => .inr (hh _ x))

theorem kindOf_bar (r : Nat) : kindOf r = 3 ↔ isMinus r = false ∧ isBar r = true := by
  unfold kindOf
  cases isMinus r <;> cases isBar r <;> simp
  all_goals repeat' split
  all_goals simp
theorem kindOf_gap (r : Nat) : kindOf r = 4 ↔ isMinus r = false ∧ isBar r = false ∧ isGap r = true := by
  unfold kindOf
  cases isMinus r <;> cases isBar r <;> cases isGap r <;> simp
  all_goals repeat' split
  all_goals simp

theorem plainR_kind (r : Nat) : plainR r = if kindOf r = 2 then 45 else if kindOf r = 3 then 47 else if kindOf r = 4 then 32 else r := by
  have h2 := kindOf_minus r
  have h3 := kindOf_bar r
  have h4 := kindOf_gap r
  unfold plainR
  by_cases c2 : kindOf r = 2
  · rw [if_pos c2, if_pos (h2.1 c2)]
  · rw [if_neg c2, if_neg (fun h => c2 (h2.2 h))]
    have m : isMinus r = false := by cases h : isMinus r; rfl; exact absurd (h2.2 h) c2
    by_cases c3 : kindOf r = 3
    · rw [if_pos c3, if_pos (h3.1 c3).2]
    · rw [if_neg c3, if_neg (fun h => c3 (h3.2 ⟨m, h⟩))]
      have b : isBar r = false := by cases h : isBar r; rfl; exact absurd (h3.2 ⟨m, h⟩) c3
      by_cases c4 : kindOf r = 4
      · rw [if_pos c4, if_pos (h4.1 c4).2.2]
      · rw [if_neg c4, if_neg (fun h => c4 (h4.2 ⟨m, b, h⟩))]

set_option maxHeartbeats 3200000 in
theorem plain_any (s : ByteArray) (w : World) (hs : s.size ≤ 1000000000) :
    Calls Tryd.prog 37 #[.string s] w fun e w' => Below w.heap.size w w' ∧ e = .returned (.string (txt ((runesOf s).map plainR))) := by
  obtain ⟨hb0, b0, hsz⟩ := boxA w #[.pointer none, .slice none 0 0] 109
  have hrl := runesAt_lt s 0
  obtain ⟨L, hL⟩ : ∃ L, runesOf s = L := ⟨_, rfl⟩
  have hL' : runesAt s 0 = L := hL
  rw [hL'] at hrl
  have HRL := hid hrl
  have HL := hid hL'
  rw [hL]
  clear hrl hL hL'
  go_enter Tryd.func37, Tryd.ntmps37
  go_wp2
  revert hb0 b0 hsz
  generalize w.alloc (.cells #[.pointer none, .slice none 0 0] 109) = W0
  intro hb0 b0 hsz
  have hk0 := World.iter_heap W0 s 0
  have hbu0 : Lib.IsBuilder 109 5 w.heap.size w.heap.size (Lib.byteCells (encB [])) (W0.iter s 0) :=
    .inl ⟨Nat.le_refl _, .slice none 0 0, b0.alloc _, by simpa [Lib.byteCells, encB] using World.ownsRow_nil _ _ _ _, by simp [Value.ownBlock]⟩
  have hbel0 : Below w.heap.size w (W0.iter s 0) := hb0.alloc hb0.size _
  rw [← hsz]
  obtain ⟨kb, hkk⟩ : ∃ kb, W0.heap.size = kb := ⟨_, rfl⟩
  obtain ⟨w2, hww⟩ : ∃ w2, W0.iter s 0 = w2 := ⟨_, rfl⟩
  have hkb : w.heap.size ≤ kb := by omega
  rw [hww] at hk0 hbu0 hbel0 ⊢
  rw [hkk] at hk0 ⊢
  clear hkk hww hsz hb0 b0
  go_loopg [5] s.size (fun gk u wr => ∃ (pos : Nat) (pre : List Nat), gk = s.size - pos ∧ wr.heap[kb]? = some (.stringIter s pos) ∧
      Lib.IsBuilder 109 5 w.heap.size w.heap.size (Lib.byteCells (encB (pre.map plainR))) wr ∧ Below w.heap.size w wr ∧ L = pre ++ runesAt s pos ∧ pre.length ≤ pos)
  case atStart => exact ⟨0, [], by omega, hk0, hbu0, hbel0, by rw [HL.out]; rfl, Nat.le_refl _⟩
  case round =>
    obtain ⟨pos, pre, hgk, hk, hbu, hbel, hru, hpl⟩ := hrel
    have HRU := hid hru
    have HGK := hid hgk
    clear hru hgk hk0 hbu0 hbel0
    by_cases hp : pos < s.size
    · have hnx := fun ty => Lib.run_next_any_at (P := Tryd.prog) wr kb s pos ty hk hp
      have hw := decode_width s pos
      obtain ⟨rn, hrn⟩ : ∃ rn, (Utf8.decode s pos).1 = rn := ⟨_, rfl⟩
      obtain ⟨wd, hwd⟩ : ∃ wd, (Utf8.decode s pos).2 = wd := ⟨_, rfl⟩
      have hst := runesAt_step s pos hp
      rw [hrn, hwd] at hst hnx
      rw [hwd] at hw
      obtain ⟨p2, hp2⟩ : ∃ p2, pos + wd = p2 := ⟨_, rfl⟩
      rw [hp2] at hnx hst
      have hlp : pos < p2 := by omega
      clear hp2
      have hbu2 := builder_iterAt hbu hk p2
      have hk2 := Lib.iterAt_heap wr kb s pos p2 hk
      have hbel2 := Lib.below_iterAt hbel hkb s p2
      have hLe : L = pre ++ rn :: runesAt s p2 := by rw [HRU.out, hst]
      have hrb : rn < 2097152 := HRL.out rn (by rw [hLe]; simp)
      have HLE := hid hLe
      have HK := hid hk2
      have Q1 := hid (what_any rn (wr.iterAt kb s p2))
      have hel := encB_len (pre.map plainR)
      rw [List.length_map] at hel
      have hPK := plainR_kind rn
      obtain ⟨pr, hpr⟩ : ∃ pr, plainR rn = pr := ⟨_, rfl⟩
      obtain ⟨kd, hkd⟩ : ∃ kd, kindOf rn = kd := ⟨_, rfl⟩
      rw [hkd] at Q1 hPK
      rw [hpr] at hPK
      have hprb : pr < 2097152 := by rw [hPK]; (repeat' split) <;> omega
      have Q2 := hid (writeRune_any w.heap.size w.heap.size _ (pr : Int) (by omega) (by omega) (wr.iterAt kb s p2) hbu2 (by simp [Lib.byteCells]; omega) hbel2.size)
      have HPR := hid hpr
      have HE : Hid (Lib.byteCells (encB (pre.map plainR)) ++ Lib.runeCells (pr : Int) = Lib.byteCells (encB ((pre ++ [rn]).map plainR))) := by
        unfold Hid
        rw [List.map_append, List.map_cons, List.map_nil, encB_snoc, byteCells_append, Lib.byteCells_encodeRune, hpr]
      clear hst hrn hwd hk2 hbu hk hbel hLe hpr hkd hel hbu2
      go_wp2_with fail
      refine Q1.out.mono ?_
      rintro e w' ⟨rfl, rfl⟩
      go_upto_block 2 with (fail)
      go_cut [5] (fun u w' => w' = wr.iterAt kb s p2 ∧ u = .int .i32 (pr : Nat))
      case first =>
        by_cases c2 : kd = 2
        · subst c2
          rw [if_pos rfl] at hPK
          subst hPK
          clear HPR Q2 HE
          go_wp2
          go_meet
          case rel => exact ⟨rfl, rfl⟩
        · rw [if_neg c2] at hPK
          have n2 : (((kd : Nat) : Int) == 2) = false := by simp; omega
          by_cases c3 : kd = 3
          · subst c3
            rw [if_pos rfl] at hPK
            subst hPK
            clear HPR Q2 HE
            go_wp2
            go_meet
            case rel => exact ⟨rfl, rfl⟩
          · rw [if_neg c3] at hPK
            have n3 : (((kd : Nat) : Int) == 3) = false := by simp; omega
            by_cases c4 : kd = 4
            · subst c4
              rw [if_pos rfl] at hPK
              subst hPK
              clear HPR Q2 HE
              go_wp2
              go_meet
              case rel => exact ⟨rfl, rfl⟩
            · rw [if_neg c4] at hPK
              have n4 : (((kd : Nat) : Int) == 4) = false := by simp; omega
              subst hPK
              clear HPR Q2 HE
              go_wp2
              go_meet
              case rel => exact ⟨rfl, rfl⟩
      case rest =>
        obtain ⟨rfl, rfl⟩ := hcut
        clear hPK Q1
        go_wp2_with fail
        refine Q2.out.mono ?_
        rintro e w3 ⟨⟨v3, rfl⟩, hbu3, hb3, hit3⟩
        rw [HE.out] at hbu3
        have hk3 := hit3 _ _ _ HK.out
        have HK3 := hid hk3
        have HBU := hid hbu3
        have hbel3 := hbel2.trans hb3
        clear Q2 hbu3 hit3 hk3 hb3
        go_wp2
        go_roundg (s.size - p2)
        case measure => have := HGK.out; omega
        case rel =>
          exact ⟨p2, pre ++ [rn], rfl, HK3.out, .inr HBU.out, hbel3, by rw [HLE.out]; simp, by simp; omega⟩
    · have hnx := fun ty => Lib.run_next_end_at (P := Tryd.prog) wr kb s pos ty hk hp
      have he := runesAt_end s pos hp
      have hpre : L = pre := by rw [HRU.out, he, List.append_nil]
      subst hpre
      clear he HRU
      have Q3 := hid (Tryd.Builder_String_any w.heap.size w.heap.size _ wr hbu hbel.size)
      go_wp2_with fail
      refine Q3.out.mono ?_
      rintro e w3 ⟨rfl, hb3⟩
      go_wp2
      go_ret
      exact ⟨hbel.trans hb3, rfl⟩
end Go.Proofs.YtjjidmgeladicaaDoor
