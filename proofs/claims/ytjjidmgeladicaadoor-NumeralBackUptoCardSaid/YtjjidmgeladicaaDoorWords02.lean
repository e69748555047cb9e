/- simileref02.Words: what stands between gaps, commas and rows' ends, with its places. -/
import Derived.Test.YtjjidmgeladicaaDoorRowN
import Derived.Test.YtjjidmgeladicaaDoorPlain02
import Derived.Lib.MapLaws
import Derived.Lib.TrimUEq
import Derived.Outline
namespace Go.Proofs.YtjjidmgeladicaaDoor
open Go.RowKit

theorem elemWord : Elem Tryd.prog 22 28 (.agg #[.int .i64 0, .string ⟨#[]⟩]) 2 24 :=
  ⟨Tryd.underlying22, by kernel_rfl, rfl, by decide⟩

/-- does a rune part words? -/
def isSep (r : Nat) : Bool := isGap r || r == 44 || r == 59 || r == 10

def flushW (s : ByteArray) (fr : Option Nat) (i : Nat) : List (Nat × ByteArray) := match fr with | none => [] | some a => [(a, s.extract a i)]

/-- the words from some runes on, where a word runs from fr on -/
def wds (s : ByteArray) : Option Nat → List (Nat × Nat) → List (Nat × ByteArray)
  | fr, [] => flushW s fr s.size
  | fr, (i, r) :: L => if isSep r = true then flushW s fr i ++ wds s none L else wds s (some (fr.getD i)) L

def wordsOf (s : ByteArray) : List (Nat × ByteArray) := wds s none (placesAt s 0)

def wordC (x : Nat × ByteArray) : List Value := [.int .i64 (x.1 : Nat), .string x.2]
def WordR (_w : World) (x : Nat × ByteArray) (cs : List Value) : Prop := cs = wordC x
def cellsW (l : List (Nat × ByteArray)) : List Value := (l.map wordC).flatten

theorem cellsW_append (a b : List (Nat × ByteArray)) : cellsW (a ++ b) = cellsW a ++ cellsW b := by simp [cellsW]
theorem cellsW_one (l : List (Nat × ByteArray)) : ∀ x, x ∈ l.map wordC → x.length = 2 := by
  intro x hx
  obtain ⟨y, _, rfl⟩ := List.mem_map.1 hx
  rfl
theorem flushW_len (s : ByteArray) (fr : Option Nat) (i : Nat) : (flushW s fr i).length ≤ 1 := by cases fr <;> simp [flushW]

/-- what parts words is encoded as it stands -/
theorem sep_width (s : ByteArray) (pos : Nat) (hp : pos < s.size) (h : isSep (Utf8.decode s pos).1 = true) : (Lib.encodeRune (((Utf8.decode s pos).1 : Nat) : Int)).length = (Utf8.decode s pos).2 := by
  have hsz : s.data.toList.length = s.size := by rw [Array.length_toList]; rfl
  have hne : s.data.toList.drop pos ≠ [] := by intro e; have := List.drop_eq_nil_iff.1 e; omega
  have hle := Lib.decodeL_le _ hne
  have he := Lib.encode_decode (s.data.toList.drop pos) hne (by
    rw [Lib.decodeL_drop]
    rintro ⟨h1, _⟩
    rw [h1] at h
    revert h
    decide)
  rw [Lib.decodeL_drop] at he hle
  rw [he, List.length_take]
  omega

theorem decode_end (s : ByteArray) (pos : Nat) (hp : pos < s.size) : pos + (Utf8.decode s pos).2 ≤ s.size := by
  have hsz : s.data.toList.length = s.size := by rw [Array.length_toList]; rfl
  have hne : s.data.toList.drop pos ≠ [] := by intro e; have := List.drop_eq_nil_iff.1 e; omega
  have hle := Lib.decodeL_le _ hne
  rw [Lib.decodeL_drop, List.length_drop] at hle
  omega

theorem utf8_natW (r : Nat) : Utf8.encode (r : Int) = ⟨(Lib.encodeRune (r : Int)).toArray⟩ := utf8_nat r

theorem utf8_len (r : Nat) : (Utf8.encode (r : Int)).size = (Lib.encodeRune (r : Int)).length := by rw [utf8_natW]; rfl

set_option maxHeartbeats 3200000 in
theorem words02_any (s : ByteArray) (w : World) (hs : s.size ≤ 400000000) :
    Calls Tryd.prog 7 #[.string s] w fun e w' => Below w.heap.size w w' ∧ ∃ r, e = .returned r ∧ RowOf 2 WordR w.heap.size w'.heap.size w' r (wordsOf s) := by
  obtain ⟨P, hP⟩ : ∃ P, wordsOf s = P := ⟨_, rfl⟩
  have HP := hid hP
  rw [hP]
  clear hP
  go_enter Tryd.func7, Tryd.ntmps7
  go_wp2
  have hk0 := World.iter_heap w s 0
  have ho2 : (w.iter s 0).ownsRow w.heap.size 28 2 (.slice none 0 0) 0 [] := World.ownsRow_nil _ _ _ _
  have hb2 : Below w.heap.size w (w.iter s 0) := (Below.refl _ _).alloc (Nat.le_refl _) _
  obtain ⟨kb, hkk⟩ : ∃ kb, w.heap.size = kb := ⟨_, rfl⟩
  obtain ⟨w2, hww⟩ : ∃ w2, w.iter s 0 = w2 := ⟨_, rfl⟩
  rw [hkk] at hk0 ⊢
  rw [hww] at hk0 ho2 hb2 ⊢
  have HKK := hid hkk
  have hkb : w.heap.size ≤ kb := by rw [hkk]; exact Nat.le_refl _
  clear hkk hww
  go_loopg [3, 4] s.size (fun gk lv fv wr => ∃ (pos : Nat) (fr : Option Nat) (l : List (Nat × ByteArray)), gk = s.size - pos ∧ wr.heap[kb]? = some (.stringIter s pos) ∧ fv = .int .i64 (fr.getD pos : Nat) ∧
      wr.ownsRow w.heap.size 28 2 lv l.length (cellsW l) ∧ Below w.heap.size w wr ∧ (∀ a, fr = some a → a < pos ∧ a < s.size) ∧ l ++ wds s fr (placesAt s pos) = P ∧ l.length ≤ pos ∧ pos ≤ s.size)
  case atStart => exact ⟨0, none, [], by omega, hk0, rfl, ho2, hb2, by simp, by rw [← HP.out]; rfl, Nat.le_refl _, Nat.zero_le _⟩
  case round =>
    obtain ⟨pos, fr, l, hgk, hk, rfl, hown, hbel, hfr, hpc, hll, hps⟩ := hrel
    have HPC := hid hpc
    have HGK := hid hgk
    have HFR := hid hfr
    clear hpc hgk hfr hk0 ho2 hb2
    by_cases hp : pos < s.size
    · have hnx := fun ty => Lib.run_next_any_at (P := Tryd.prog) wr kb s pos ty hk hp
      have hw := decode_width s pos
      have hen := decode_end s pos hp
      have hsw := sep_width s pos hp
      have hrb := decode_lt s pos
      obtain ⟨rn, hrn⟩ : ∃ rn, (Utf8.decode s pos).1 = rn := ⟨_, rfl⟩
      obtain ⟨wd, hwd⟩ : ∃ wd, (Utf8.decode s pos).2 = wd := ⟨_, rfl⟩
      have hstp := placesAt_step s pos hp
      rw [hrn, hwd] at hstp hnx hsw
      rw [hrn] at hrb
      rw [hwd] at hw hen
      obtain ⟨p2, hp2⟩ : ∃ p2, pos + wd = p2 := ⟨_, rfl⟩
      rw [hp2] at hnx hstp hen
      have hlp : pos < p2 := by omega
      have HP2 := hid hp2
      have hown2 := iterAt_own hown hk p2
      have hk2 := Lib.iterAt_heap wr kb s pos p2 hk
      have hbel2 := Lib.below_iterAt hbel hkb s p2
      have HK := hid hk2
      have HSTP := hid hstp
      have HSW := hid hsw
      have Q1 := hid fun w => gap_any rn w
      have hpcs : wds s fr (placesAt s pos) = if isSep rn = true then flushW s fr pos ++ wds s none (placesAt s p2) else wds s (some (fr.getD pos)) (placesAt s p2) := by
        rw [HSTP.out, wds]
      have HPCS := hid hpcs
      have HOWN := hid hown2
      have HBEL := hid hbel2
      clear hp2 hw hstp hrn hwd hk2 hk hown hbel hown2 hbel2 hsw hpcs
      go_upto_region 6 with (fail)
      go_cut [26] (fun t w' => w' = wr.iterAt kb s p2 ∧ t = .bool (isSep rn))
      case first =>
        cases hg : isGap rn
        · rw [hg] at Q1
          by_cases c44 : rn = 44
          · subst c44
            clear hg
            go_wp2_with fail
            refine (Q1.out _).mono ?_
            rintro e w' ⟨rfl, rfl⟩
            go_wp2
            go_meet
            case rel => exact ⟨rfl, rfl⟩
          · have n44 : ((rn : Int) == 44) = false := by simp; omega
            by_cases c59 : rn = 59
            · subst c59
              clear hg
              go_wp2_with fail
              refine (Q1.out _).mono ?_
              rintro e w' ⟨rfl, rfl⟩
              go_wp2
              go_meet
              case rel => exact ⟨rfl, rfl⟩
            · have n59 : ((rn : Int) == 59) = false := by simp; omega
              by_cases c10 : rn = 10
              · subst c10
                clear hg
                go_wp2_with fail
                refine (Q1.out _).mono ?_
                rintro e w' ⟨rfl, rfl⟩
                go_wp2
                go_meet
                case rel => exact ⟨rfl, rfl⟩
              · have n10 : ((rn : Int) == 10) = false := by simp; omega
                have hsep : isSep rn = false := by
                  unfold isSep
                  rw [hg]
                  simp [c44, c59, c10]
                have HS := hid hsep
                clear hg hsep
                go_wp2_with fail
                refine (Q1.out _).mono ?_
                rintro e w' ⟨rfl, rfl⟩
                go_wp2
                go_meet
                case rel => exact ⟨rfl, by rw [HS.out]⟩
        · rw [hg] at Q1
          have hsep : isSep rn = true := by
            unfold isSep
            rw [hg]
            rfl
          have HS := hid hsep
          clear hg hsep
          go_wp2_with fail
          refine (Q1.out _).mono ?_
          rintro e w' ⟨rfl, rfl⟩
          go_wp2
          go_meet
          case rel => exact ⟨rfl, by rw [HS.out]⟩
      case rest =>
        obtain ⟨rfl, hct⟩ := hcut
        cases hsep : isSep rn
        · rw [hsep] at hct
          subst hct
          have hp9 := HPCS.out
          rw [hsep, if_neg (by simp)] at hp9
          have HP9 := hid hp9
          clear hsep hp9 HPCS Q1
          go_wp2
          go_roundg (s.size - p2)
          case measure => have := HGK.out; omega
          case rel =>
            refine ⟨p2, some (fr.getD pos), l, rfl, HK.out, rfl, HOWN.out, HBEL.out, ?_, ?_, by omega, hen⟩
            · intro a ha
              simp only [Option.some.injEq] at ha
              cases fr with
              | none => simp only [Option.getD_none] at ha; omega
              | some b => have := HFR.out b rfl; simp only [Option.getD_some] at ha; omega
            · rw [← HPC.out, HP9.out]
        · rw [hsep] at hct
          subst hct
          have hp9 := HPCS.out
          rw [hsep, if_pos rfl] at hp9
          have HP9 := hid hp9
          have hlen := HSW.out hsep
          have hul : (Utf8.encode (rn : Int)).size = wd := (utf8_len rn).trans hlen
          have hadd := HP2.out
          have HADD : Hid (((pos : Nat) : Int) + ((Utf8.encode (rn : Int)).size : Int) = ((p2 : Nat) : Int)) := by unfold Hid; rw [hul]; omega
          have hwb : (Utf8.encode (rn : Int)).size ≤ 4 := by rw [utf8_len]; have := Lib.runeCells_le (rn : Int); rw [← Lib.byteCells_encodeRune] at this; simp [Lib.byteCells] at this; omega
          clear hsep hp9 HPCS Q1 hlen hul hadd
          cases fr with
          | none =>
            simp only [Option.getD_none]
            have hnn : ¬ ((pos : Int) < (pos : Int)) := by omega
            go_wp2
            go_roundg (s.size - p2)
            case measure => have := HGK.out; omega
            case rel =>
              refine ⟨p2, none, l, rfl, HK.out, by rw [HADD.out]; rfl, HOWN.out, HBEL.out, by simp, ?_, by omega, hen⟩
              rw [← HPC.out, HP9.out]
              simp [flushW]
          | some a =>
            have ha := HFR.out a rfl
            simp only [Option.getD_some]
            have ha1 : (a : Int) < (pos : Int) := by omega
            have ha2 : (pos : Int) ≤ (s.size : Int) := by omega
            have ha3 : (a : Int) ≤ (pos : Int) := by omega
            clear ha
            go_wp2_with (at_builtin; go_loud (refine wpl_append1 elemWord rfl _ _ rfl w.heap.size l.length 1 1 _ (cellsW l) #[.int .i64 (a : Nat), .string (s.extract a pos)] HOWN.out rfl rfl rfl (by simp [Value.oneCell']) (by omega) (by decide) (by unfold maxLen; omega) HBEL.out HBEL.out.size ?_))
            intro g6 c6 w6 ho6 hb6 hg6
            have hk6 : w6.heap[kb]? = some (.stringIter s p2) := by
              refine grown_iter hg6 ?_ (own_kind (HOWN.out.alloc _))
              exact (Below.heap_alloc _ _ kb (Array.getElem?_eq_some_iff.1 HK.out).1).trans HK.out
            have HK6 := hid hk6
            have HO6 := hid ho6
            clear hk6 hg6 ho6
            go_wp2
            go_roundg (s.size - p2)
            case measure => have := HGK.out; omega
            case rel =>
              refine ⟨p2, none, l ++ [(a, s.extract a pos)], rfl, HK6.out, by rw [HADD.out]; rfl, ?_, hb6, by simp, ?_, by simp; omega, hen⟩
              · rw [cellsW_append, List.length_append]
                exact HO6.out
              · rw [← HPC.out, HP9.out]
                simp [flushW]
    · have hnx := fun ty => Lib.run_next_end_at (P := Tryd.prog) wr kb s pos ty hk hp
      have hpe : pos = s.size := by omega
      have hpc := HPC.out
      rw [placesAt_end s pos hp, wds] at hpc
      have HPC2 := hid hpc
      have HOWN := hid hown
      have HFIN := hid fun (v : Value) (W : World) (l' : List (Nat × ByteArray)) (h : W.ownsRow w.heap.size 28 2 v l'.length (cellsW l')) => RowOf.ofOwn (R := WordR) (l := l') (cs := l'.map wordC) (by decide) h (by simp) (cellsW_one l') (by
        intro i x c hx hc
        rw [List.getElem?_map, hx] at hc
        simp only [Option.map_some, Option.some.injEq] at hc
        exact hc.symm)
      clear hpc HPC hown hk
      cases fr with
      | none =>
        simp only [Option.getD_none]
        have hnn : ¬ ((pos : Int) < (s.size : Int)) := by omega
        clear hpe
        go_wp2
        go_ret
        refine ⟨hbel, _, rfl, ?_⟩
        rw [← HPC2.out]
        simp only [flushW, List.append_nil]
        exact HFIN.out _ _ _ HOWN.out
      | some a =>
        have ha := HFR.out a rfl
        simp only [Option.getD_some]
        have ha1 : (a : Int) < (s.size : Int) := by omega
        have ha3 : (a : Int) ≤ (s.size : Int) := by omega
        clear ha hpe
        go_wp2_with (at_builtin; go_loud (refine wpl_append1 elemWord rfl _ _ rfl w.heap.size l.length 1 1 _ (cellsW l) #[.int .i64 (a : Nat), .string (s.extract a s.size)] HOWN.out rfl rfl rfl (by simp [Value.oneCell']) (by omega) (by decide) (by unfold maxLen; omega) hbel hbel.size ?_))
        intro g6 c6 w6 ho6 hb6 hg6
        have HO6 := hid ho6
        clear hg6 ho6
        go_wp2
        go_ret
        refine ⟨hb6, _, rfl, ?_⟩
        rw [← HPC2.out]
        refine HFIN.out _ _ _ ?_
        rw [cellsW_append, List.length_append]
        exact HO6.out
end Go.Proofs.YtjjidmgeladicaaDoor
