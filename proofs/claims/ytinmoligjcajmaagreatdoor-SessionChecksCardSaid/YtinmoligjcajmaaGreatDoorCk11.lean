/- simileref28.Asks. -/
import Derived.Test.YtinmoligjcajmaaGreatDoorCk09
import Derived.Test.YtinmoligjcajmaaGreatDoorCk10
import Derived.Test.YtinmoligjcajmaaGreatDoorCk01
set_option linter.all false
set_option maxRecDepth 20000
set_option maxHeartbeats 6400000
namespace Go.Proofs.YtinmoligjcajmaaGreatDoor
open Go.RowKit Go.Ev Go.Vl

theorem elemLet : Elem Tryz.prog 66 76 (.agg #[.string ⟨#[]⟩, .string ⟨#[]⟩]) 2 32 :=
  ⟨Tryz.underlying66, by kernel_rfl, rfl, by decide⟩
theorem elemAsk : Elem Tryz.prog 40 72 (.agg #[.int .i64 0, .string ⟨#[]⟩, .string ⟨#[]⟩, .slice none 0 0]) 4 64 :=
  ⟨Tryz.underlying40, by kernel_rfl, rfl, by decide⟩

/-- one line told: what it asks, and the names behind it -/
def nextL (L : Lets) (s : Tx) : Lets := if (cutL s).1 = cLet then L ++ [((askL L s).1, (askL L s).2.1.headD [])] else L
def goA : List (Nat × Tx) → Lets → Nat → Nat × Nat
  | [], _, _ => (0, 0)
  | x :: r, L, n =>
    if saysB (tx x.2) = false then goA r L n
    else if n = 1000 then (x.1, 4)
    else if (askL L x.2).2.2 = false then (x.1, 280)
    else goA r (nextL L x.2) (n + 1)
def asksL (s : Tx) : Nat × Nat := if 1048576 < s.length then (0, 4) else goA (splL 1 [] s) [] 0

theorem splL_mem (s : Tx) : ∀ (k : Nat) (cur : Tx), ∀ x ∈ splL k cur s, x.1 ≤ k + s.length ∧ x.2.length ≤ cur.length + s.length := by
  induction s with
  | nil =>
    intro k cur x hx
    simp only [splL] at hx
    split at hx
    · simp at hx
    · simp at hx; subst hx; exact ⟨by simp, by simp⟩
  | cons c l ih =>
    intro k cur x hx
    simp only [splL] at hx
    split at hx
    · rcases List.mem_cons.1 hx with rfl | hx
      · exact ⟨by simp, by simp⟩
      · have := ih _ _ x hx
        simp only [List.length_nil, List.length_cons] at this ⊢
        omega
    · have := ih _ _ x hx
      simp only [List.length_append, List.length_cons, List.length_nil] at this ⊢
      omega

theorem splL_len (s : Tx) : ∀ (k : Nat) (cur : Tx), (splL k cur s).length ≤ s.length + 1 := by
  induction s with
  | nil => intro k cur; simp only [splL]; split <;> simp
  | cons c l ih =>
    intro k cur
    simp only [splL]
    split
    · have := ih (k + 1) []
      simp only [List.length_cons] at this ⊢
      omega
    · have := ih k (cur ++ [c])
      simp only [List.length_cons] at this ⊢
      omega

theorem askL_let (L : Lets) (s : Tx) (h : (cutL s).1 = cLet) (ho : (askL L s).2.2 = true) : ∃ t, (askL L s).2.1 = [t] := by
  unfold askL at ho ⊢
  split at ho
  · rename_i h1
    rw [if_pos h1]
    unfold askR at ho ⊢
    rw [if_pos h] at ho ⊢
    unfold letR at ho ⊢
    split at ho
    · rename_i h2
      rw [if_pos h2]
      exact ⟨_, rfl⟩
    · cases ho
  · cases ho

set_option maxHeartbeats 6400000 in
set_option maxRecDepth 100000 in
theorem asks28_any (s : Tx) (w : World) (hs9 : s.length ≤ 9223372036854775807) :
    Calls Tryz.prog 12 #[.string (tx s)] w fun e w' => Below w.heap.size w w' ∧ ∃ v, e = .returned (.tuple #[v, .int .i64 ((asksL s).1 : Nat), .int .i64 ((asksL s).2 : Nat)]) := by
  have hsz : (tx s).size = s.length := by simp [tx, ByteArray.size]
  unfold asksL
  by_cases hbig : 1048576 < s.length
  · rw [if_pos hbig]
    have hbi : (1048576 : Int) < (s.length : Nat) := by omega
    go_enter Tryz.func12, Tryz.ntmps12
    go_wp2
    go_ret3
    exact ⟨Below.refl _ _, _, rfl⟩
  · rw [if_neg hbig]
    have hbi : (s.length : Nat) ≤ (1048576 : Int) := by omega
    have Q0 := hid (split_k s w (by omega))
    obtain ⟨T, hT⟩ : ∃ T, goA (splL 1 [] s) [] 0 = T := ⟨_, rfl⟩
    have hmem := splL_mem s 1 []
    have hll := splL_len s 1 []
    obtain ⟨l, hl⟩ : ∃ l, splL 1 [] s = l := ⟨_, rfl⟩
    rw [hl] at hT Q0 hmem hll
    have HT := hid hT
    have HM := hid hmem
    rw [hl, hT]
    clear hT hmem hl
    go_enter Tryz.func12, Tryz.ntmps12
    go_wp2_with fail
    refine Q0.out.mono ?_
    rintro e w1 ⟨hb1, v, rfl, hr⟩
    obtain ⟨ad, cap, rfl⟩ := hr.list_shape
    rw [lines_len] at hr ⊢
    have HR := hid hr
    clear Q0 hr
    go_wp2
    have ho5 : w1.ownsRow w1.heap.size 72 4 (.slice none 0 0) 0 [] := World.ownsRow_nil _ _ _ _
    have ho6 : w1.ownsRow w1.heap.size 76 2 (.slice none 0 0) 0 [] := World.ownsRow_nil _ _ _ _
    have hb0 := Below.refl w1.heap.size w1
    go_loopg [5, 6, 17] l.length (fun gk v5 v6 i wr => ∃ (k n : Nat) (L : Lets) (xs : List Value), gk = l.length - k ∧ i = .int .i64 (k : Nat) ∧ k ≤ l.length ∧ n ≤ 1000 ∧ L.length ≤ n ∧
      wr.ownsRow w1.heap.size 72 4 v5 n xs ∧ wr.ownsRow w1.heap.size 76 2 v6 L.length (letCells L) ∧ Below w1.heap.size w1 wr ∧ goA (l.drop k) L n = T)
    case atStart => exact ⟨0, 0, [], [], rfl, rfl, Nat.zero_le _, Nat.zero_le _, Nat.le_refl _, ho5, ho6, hb0, HT.out⟩
    case round =>
      obtain ⟨k, n, L, xs, hgk, rfl, hkl, hn, hLn, h5, h6, hbel, hT⟩ := hrel
      have HGK := hid hgk
      have HTT := hid hT
      clear hgk hT ho5 ho6 hb0 HT
      by_cases hlt : k < l.length
      · obtain ⟨x, hx⟩ : ∃ x, l[k]? = some x := ⟨_, List.getElem?_eq_getElem hlt⟩
        obtain ⟨b, off, cap2, he, c0, c1⟩ := line_at (HR.out.later hbel) k x hx
        simp only [Value.slice.injEq] at he
        obtain ⟨rfl, -, rfl⟩ := he
        have hki : (k : Int) < (l.length : Nat) := by omega
        have hx2 := HM.out x (List.mem_of_getElem? hx)
        have hwk : wrap64 ((k : Int) + 1) = ((k + 1 : Nat) : Int) := by unfold wrap64; omega
        have QS := hid fun w => says28_any (tx x.2) w (by simp only [tx, ByteArray.size]; simp; simp at hx2; omega)
        have hT2 := HTT.out
        rw [drop_cons1 l k x hx] at hT2
        simp only [goA] at hT2
        obtain ⟨W, hW⟩ : ∃ W, wr.alloc (.cells #[.int .i64 (x.1 : Nat), .string (tx x.2)] 70) = W := ⟨_, rfl⟩
        have bx : BoxIs W wr.heap.size 70 [.int .i64 (x.1 : Nat), .string (tx x.2)] := by rw [← hW]; exact BoxIs.new _ _ _
        have hbW : Below w1.heap.size w1 W := by rw [← hW]; exact hbel.alloc hbel.size _
        have h5W : W.ownsRow w1.heap.size 72 4 u5 n xs := by rw [← hW]; exact h5.alloc _
        have h6W : W.ownsRow w1.heap.size 76 2 u6 L.length (letCells L) := by rw [← hW]; exact h6.alloc _
        obtain ⟨d0, d1, e0, e1⟩ := bx.two
        clear hbel h5 h6
        by_cases hsay : saysB (tx x.2) = false
        · rw [if_pos hsay] at hT2
          rw [hsay] at QS
          go_wp2_with fail
          refine (QS.out _).mono ?_
          rintro e w2 ⟨hb2, rfl⟩
          have h5b := ownLater h5W hb2
          have h6b := ownLater h6W hb2
          have hbb := hbW.trans (hb2.mono hbW.size)
          clear QS h5W h6W hbW hW
          go_wp2
          go_roundg (l.length - (k + 1))
          case measure => have := HGK.out; omega
          case rel => exact ⟨k + 1, n, L, xs, rfl, rfl, by omega, hn, hLn, h5b, h6b, hbb, hT2⟩
        · rw [if_neg hsay] at hT2
          have hsay : saysB (tx x.2) = true := by simpa using hsay
          rw [hsay] at QS
          have hlen : x.1 ≤ 1048577 ∧ x.2.length ≤ 1048576 := by simp at hx2; omega
          by_cases h1000 : n = 1000
          · subst h1000
            rw [if_pos rfl] at hT2
            obtain ⟨ad5, c5, rfl⟩ := own_shape h5W
            go_wp2_with fail
            refine (QS.out _).mono ?_
            rintro e w2 ⟨hb2, rfl⟩
            obtain ⟨d0, d1, e0, e1⟩ := (bx.later hb2).two
            have hbb := hbW.trans (hb2.mono hbW.size)
            clear QS h5W h6W hbW hW
            go_wp2
            go_quiet (fail)
            go_wp2
            go_ret3
            subst hT2
            exact ⟨hb1.trans (belowN (hbb.mono hb1.size) _), _, rfl⟩
          · rw [if_neg h1000] at hT2
            have h1i : ¬ ((n : Int) = 1000) := by omega
            have QA := hid fun w h => ask_k x.1 x.2 L u6 w w1.heap.size h hlen.1 hlen.2 (by omega)
            obtain ⟨ad5, c5, rfl⟩ := own_shape h5W
            go_wp2_with fail
            refine (QS.out _).mono ?_
            rintro e w2 ⟨hb2, rfl⟩
            have bx2 := bx.later hb2
            obtain ⟨d0, d1, e0, e1⟩ := bx2.two
            have hbb := hbW.trans (hb2.mono hbW.size)
            have h5b := ownLater h5W hb2
            have h6b := ownLater h6W hb2
            clear QS h5W h6W hbW hW bx
            go_wp2_with fail
            refine (QA.out _ h6b).mono ?_
            rintro e w3 ⟨hb3, M, rfl, hM⟩
            generalize Value.slice ad5 n c5 = v5 at *
            have hlet0 := askL_let L x.2
            unfold nextL at hT2
            obtain ⟨adM, cM, rfl⟩ := hM.list_shape
            rw [ones_len] at hM ⊢
            generalize (cutL x.2).1 = wd at *
            generalize askL L x.2 = A at *
            obtain ⟨nm, ms, ok⟩ := A
            dsimp only at hM hT2 hlet0 ⊢
            have hm3 : w2.heap.size ≤ w3.heap.size := hb3.size
            obtain ⟨W, hW⟩ : ∃ W, w3.alloc (.cells #[.int .i64 (x.1 : Nat), .string (tx wd), .string (tx nm), .slice adM ms.length cM] 72) = W := ⟨_, rfl⟩
            have hb4 : Below w2.heap.size w2 W := by rw [← hW]; exact hb3.alloc hb3.size _
            have bz : BoxIs W w3.heap.size 72 [.int .i64 (x.1 : Nat), .string (tx wd), .string (tx nm), .slice adM ms.length cM] := by rw [← hW]; exact BoxIs.new _ _ _
            have bx3 := bx2.later hb4
            obtain ⟨d0, d1, e0, e1⟩ := bx3.two
            obtain ⟨⟨z0, z1, z2, z3⟩, y0, y1, y2, y3⟩ := bz.four
            have h5c := ownLater h5b hb4
            have h6c := ownLater h6b hb4
            have hM4 : Rep (fun _ => True) W (vTs ms) (.slice adM ms.length cM) := by rw [← hW]; exact hM.later ((Below.refl _ _).alloc (Nat.le_refl _) _)
            have hbc := hbb.trans (hb4.mono hbb.size)
            clear hb3 hb4 h5b h6b hM hbb bx2 QA
            cases ok with
            | false =>
              rw [if_pos rfl] at hT2
              subst hT2
              go_wp2
              go_quiet (fail)
              go_wp2
              go_ret3
              exact ⟨hb1.trans (belowN (hbc.mono hb1.size) _), _, rfl⟩
            | true =>
              rw [if_neg (by decide)] at hT2
              by_cases hlw : wd = cLet
              · subst hlw
                obtain ⟨t, rfl⟩ := hlet0 rfl rfl
                rw [if_pos rfl] at hT2
                obtain ⟨bM, oM, cM2, he, hm0⟩ := text_at hM4 0 t rfl
                simp only [Value.slice.injEq] at he
                obtain ⟨rfl, -, rfl⟩ := he
                simp only [Nat.add_zero] at hm0
                simp only [List.length_cons, List.length_nil, Nat.zero_add] at hW z3
                have hwb : (cLet == [108, 101, 116]) = true := rfl
                have h5d : W.drew.ownsRow w1.heap.size 72 4 v5 n xs := h5c
                have h6d : W.drew.ownsRow w1.heap.size 76 2 u6 L.length (letCells L) := h6c
                have hbd : Below w1.heap.size w1 W.drew := hbc.drew
                have bzd : BoxIs W.drew w3.heap.size 72 [.int .i64 (x.1 : Nat), .string (tx cLet), .string (tx nm), .slice (some ⟨bM, oM, none⟩) 1 cM] := bz
                clear hM4 h5c h6c hbc bz bx3
                go_wp2
                go_region_law ((refine stepOwn elemLet rfl _ _ rfl w1.heap.size L.length 1 1 u6 (letCells L) #[.string (tx nm), .string (tx t)] h6d rfl rfl rfl (by simp [Value.oneCell']) (by omega) (by decide) (by unfold maxLen; omega) hbd hbd.size ?_; intro g6 c6 w6 ho6 hb6 hg6))
                all_goals (
                  have h5e := ownGrown (h5d.alloc (.cells #[.string (tx nm), .string (tx t)] 76)) (h6d.alloc (.cells #[.string (tx nm), .string (tx t)] 76)) (by decide) hg6
                  have bze := boxGrown (bzd.alloc (.cells #[.string (tx nm), .string (tx t)] 76)) hg6 (ownType (h6d.alloc _) _ (by decide))
                  obtain ⟨⟨z0, z1, z2, z3⟩, y0, y1, y2, y3⟩ := bze.four
                  have h6e : w6.ownsRow w1.heap.size 76 2 (.slice (some ⟨g6, 0, none⟩) (L.length + 1) c6) (L ++ [(nm, t)]).length (letCells (L ++ [(nm, t)])) := by
                    rw [letCells_snoc, List.length_append]; exact ho6
                  generalize Value.slice (some ⟨g6, 0, none⟩) (L.length + 1) c6 = v6 at h6e ⊢
                  clear h5d h6d hbd bzd bze hg6 ho6 hW hm0
                  go_wp2_with (at_builtin; go_loud (refine wpl_append1 elemAsk rfl _ _ rfl w1.heap.size n 1 1 _ xs #[.int .i64 (x.1 : Nat), .string (tx cLet), .string (tx nm), .slice (some ⟨bM, oM, none⟩) 1 cM] h5e rfl rfl rfl (by simp [Value.oneCell']) (by omega) (by decide) (by unfold maxLen; omega) hb6 hb6.size ?_))
                  intro g7 c7 w7 ho7 hb7 hg7
                  have h6f := ownGrown (h6e.alloc (.cells #[.int .i64 (x.1 : Nat), .string (tx cLet), .string (tx nm), .slice (some ⟨bM, oM, none⟩) 1 cM] 72)) (h5e.alloc (.cells #[.int .i64 (x.1 : Nat), .string (tx cLet), .string (tx nm), .slice (some ⟨bM, oM, none⟩) 1 cM] 72)) (by decide) hg7
                  clear h5e h6e hb6 hg7
                  go_wp2
                  go_roundg (l.length - (k + 1))
                  case measure => have := HGK.out; omega
                  case rel => exact ⟨k + 1, n + 1, L ++ [(nm, t)], _, rfl, rfl, by omega, by omega, by simp; omega, ho7, h6f, hb7, hT2⟩)
              · rw [if_neg hlw] at hT2
                have hwb : (wd == [108, 101, 116]) = false := by rw [beq_eq_false_iff_ne]; exact hlw
                clear hM4 bx3 bz
                go_wp2_with (at_builtin; go_loud (refine wpl_append1 elemAsk rfl _ _ rfl w1.heap.size n 1 1 _ xs #[.int .i64 (x.1 : Nat), .string (tx wd), .string (tx nm), .slice adM ms.length cM] h5c rfl rfl rfl (by simp [Value.oneCell']) (by omega) (by decide) (by unfold maxLen; omega) hbc hbc.size ?_))
                intro g6 c6 w6 ho6 hb6 hg6
                have h6e := ownGrown (h6c.alloc (.cells #[.int .i64 (x.1 : Nat), .string (tx wd), .string (tx nm), .slice adM ms.length cM] 72)) (h5c.alloc (.cells #[.int .i64 (x.1 : Nat), .string (tx wd), .string (tx nm), .slice adM ms.length cM] 72)) (by decide) hg6
                clear h5c h6c hbc hg6
                go_wp2
                go_roundg (l.length - (k + 1))
                case measure => have := HGK.out; omega
                case rel => exact ⟨k + 1, n + 1, L, _, rfl, rfl, by omega, by omega, by omega, ho6, h6e, hb6, hT2⟩
      · have hki : ¬ (k : Int) < (l.length : Nat) := by omega
        have h0 : T = (0, 0) := by
          rw [← HTT.out, List.drop_eq_nil_of_le (by omega)]; rfl
        subst h0
        go_wp2
        go_ret3
        exact ⟨hb1.trans (hbel.mono hb1.size), _, rfl⟩
end Go.Proofs.YtinmoligjcajmaaGreatDoor
/- (*player).line is simileref28.ask. -/
namespace Go.Proofs.YtinmoligjcajmaaGreatDoor
open Go.RowKit Go.Vl

theorem fW_none (wd : Tx) : ∀ (A : WdA) (k : Nat), (∀ x ∈ A, x.1 ≠ wd) → fW wd A k = none
  | [], _, _ => rfl
  | x :: A, k, h => by
    unfold fW
    rw [beq_eq_false_iff_ne.2 (h x List.mem_cons_self)]
    exact fW_none wd A (k + 1) fun y hy => h y (List.mem_cons_of_mem _ hy)
theorem matF_len (L : Lets) : ∀ (n : Nat) (s : Tx) (out l : List Tx), matF L n s out = some l → out.length < l.length ∧ l.length ≤ out.length + s.length
  | 0, s, out, l, h => by cases h
  | n + 1, [], out, l, h => by cases h
  | n + 1, c :: r, out, l, h => by
    have key : ∀ (s' : Tx) (t : Tx), s'.length + 1 ≤ (c :: r).length ∨ s'.length ≤ (c :: r).length → nextF (matF L n) s' (out ++ [t]) = some l → out.length < l.length ∧ l.length ≤ out.length + (c :: r).length := by
      intro s' t hs hx
      cases s' with
      | nil =>
        simp only [nextF, Option.some.injEq] at hx
        subst hx
        simp only [List.length_append, List.length_cons, List.length_nil]
        omega
      | cons d s2 =>
        simp only [nextF] at hx
        split at hx
        · have := matF_len L n s2 (out ++ [t]) l hx
          simp only [List.length_append, List.length_cons, List.length_nil] at this hs ⊢
          omega
        · cases hx
    unfold matF at h
    split at h
    · split at h
      · cases h
      · exact key _ _ (.inr (by rw [List.length_drop]; omega)) h
    · split at h
      · exact key _ _ (.inr (by rw [List.length_drop]; omega)) h
      · cases h
theorem mats_len (L : Lets) (s : Tx) (l : List Tx) (h : matsL L s = some l) : 1 ≤ l.length ∧ l.length ≤ s.length := by
  have := matF_len L _ s [] l h
  simp only [List.length_nil] at this
  omega
theorem matR_ok (n : Tx) (m : Nat) (T : Option (List Tx)) (hm : 1 ≤ m) : (matR n m T).2.2 = okT T m m := by
  cases T with
  | none => rfl
  | some l =>
    show (m == 0 || l.length == m) = (decide (m ≤ l.length) && decide (l.length ≤ m))
    rw [beq_eq_false_iff_ne.2 (by omega : m ≠ 0), Bool.false_or]
    by_cases h : l.length = m
    · rw [h]; simp
    · rw [beq_eq_false_iff_ne.2 h]
      symm
      rw [Bool.eq_false_iff]
      intro h2
      simp only [Bool.and_eq_true, decide_eq_true_eq] at h2
      omega
theorem say_look {p b f : Nat} {s : Tx} {L : Lets} {m : Int} {lo hi : Nat} (hw : ∀ w, Looks w p b L m → Calls Tryz.prog f #[.pointer (some ⟨p, 0, none⟩), .string (tx s)] w fun e w' => Below w.heap.size w w' ∧ LookSay (matsL L s) (lo : Nat) (hi : Nat) (.tuple #[]) e) :
    WordSay p b f s L L m (okT (matsL L s) lo hi) := fun w h => (hw w h).mono fun e w' ⟨hb, hl⟩ => by
  have he := look_ok hl
  refine ⟨grown_below hb, ?_⟩
  cases hk : okT (matsL L s) lo hi with
  | true => rw [hk] at he; exact .inl ⟨rfl, he, h.is.later hb⟩
  | false => rw [hk] at he; exact .inr ⟨rfl, he, h.is.later hb⟩
theorem say_route {p b : Nat} {s : Tx} {L : Lets} {m : Int} (hs : s.length ≤ 1048576) : WordSay p b 148 s L L m ((cutL s).2.2 && (roadB (cutL s).1 && okT (matsL L (cutL s).2.1) 1 1)) := fun w h =>
  (route_any p b (tx s) L m w (by rw [← size_len]; exact hs) h).mono fun e w' ⟨hb, he⟩ => by
  have he : e = okE ((cutL s).2.2 && (roadB (cutL s).1 && okT (matsL L (cutL s).2.1) 1 1)) := he
  refine ⟨grown_below hb, ?_⟩
  cases hk : ((cutL s).2.2 && (roadB (cutL s).1 && okT (matsL L (cutL s).2.1) 1 1)) with
  | true => rw [hk] at he; exact .inl ⟨rfl, he, h.is.later hb⟩
  | false => rw [hk] at he; exact .inr ⟨rfl, he, h.is.later hb⟩
theorem say_let {p b : Nat} {s : Tx} {L : Lets} {m : Int} (hs : s.length ≤ 1048576) : WordSay p b 144 s L (match letP s with | some x => L ++ [x] | none => L) m (letP s).isSome := fun w h =>
  (let_any p b (tx s) L m w (by rw [← size_len]; exact hs) h).mono fun e w' ⟨hg, hq⟩ => by
  have hq : ((∃ n t, letP s = some (n, t) ∧ e = .returned (.tuple #[]) ∧ NamesIs w' b (L ++ [(n, t)])) ∨ (letP s = none ∧ e = gaveS ∧ NamesIs w' b L)) := hq
  refine ⟨hg, ?_⟩
  rcases hq with ⟨n, t, h1, h2, h3⟩ | ⟨h1, h2, h3⟩
  · rw [h1]; exact .inl ⟨rfl, h2, h3⟩
  · rw [h1]; exact .inr ⟨rfl, h2, h3⟩
theorem letP_named {s : Tx} {x : Tx × Tx} (h : letP s = some x) : x.1 ≠ [] := by
  unfold letP at h
  split at h
  · rename_i h1
    split at h
    · cases h
      intro h2
      have := h1.2
      dsimp only at h2
      rw [h2] at this
      cases this
    · cases h
  · cases h

/-- what a line comes to -/
def LineSay (p b : Nat) (s : Tx) (L : Lets) (m : Int) (w : World) (e : Ending) (w' : World) : Prop :=
  Kept w w' p b ∧ e = .returned (.bool (askL L s).2.2) ∧ (((askL L s).2.2 = true ∧ Plays w' p b (nextL L s) m (.slice none 0 0)) ∨ (askL L s).2.2 = false)

set_option maxHeartbeats 1600000 in
theorem line_any (p b : Nat) (s : Tx) (L : Lets) (m : Int) (o : Value) (w : World) (hs : s.length ≤ 1048576) (h : Plays w p b L m o) :
    Calls Tryz.prog 50 #[.pointer (some ⟨p, 0, none⟩), .string (tx s)] w fun e w' => LineSay p b s L m w e w' := by
  have hsz : (tx s).size ≤ 1048576 := by rw [← size_len]; exact hs
  have hcl := cutL_len s
  have hrs : (cutL s).2.1.length ≤ 1048576 := Nat.le_trans hcl.2 hs
  have hrz : (tx (cutL s).2.1).size ≤ 1048576 := by rw [← size_len]; exact hrs
  by_cases hmo : (cutL s).2.2 = true
  · -- a word and more
    have hask : askL L s = askR L (cutL s).1 (cutL s).2.1 := if_pos hmo
    have hN : ∀ ok, (askL L s).2.2 = ok → (cutL s).1 ≠ cLet → ∀ i f, fW (cutL s).1 wordsA 0 = some (i, f) → WordSay p b f (cutL s).2.1 L L m ok → Calls Tryz.prog 50 #[.pointer (some ⟨p, 0, none⟩), .string (tx s)] w fun e w' => LineSay p b s L m w e w' := by
      intro ok hok hne i f hF hW
      refine (line_word p b (tx s) L L m o w hsz h ok i f hmo hF hW h.named).mono ?_
      rintro e w' ⟨h1, h2, h3⟩
      have hnx : nextL L s = L := if_neg hne
      unfold LineSay
      rw [hok, hnx]
      exact ⟨h1, h2, h3⟩
    by_cases h1 : (cutL s).1 = cLet
    · have hok : (askL L s).2.2 = (letP (cutL s).2.1).isSome := by
        rw [hask]
        unfold askR
        rw [if_pos h1, letR_P]
        cases letP (cutL s).2.1 <;> rfl
      have hnx : nextL L s = match letP (cutL s).2.1 with | some x => L ++ [x] | none => L ++ [([], [])] := by
        unfold nextL
        rw [if_pos h1, hask]
        unfold askR
        rw [if_pos h1, letR_P]
        cases letP (cutL s).2.1 <;> rfl
      have hF : fW (cutL s).1 wordsA 0 = some (0, 144) := by rw [h1]; rfl
      refine (line_word p b (tx s) L _ m o w hsz h _ 0 _ hmo hF (say_let hrs) ?_).mono ?_
      · cases hl : letP (cutL s).2.1 with
        | none => exact h.named
        | some x =>
          intro y hy
          rcases List.mem_append.1 hy with hy | hy
          · exact h.named y hy
          · rw [List.mem_singleton.1 hy]; exact letP_named hl
      · rintro e w' ⟨k1, k2, k3⟩
        unfold LineSay
        rw [hok, hnx]
        refine ⟨k1, k2, ?_⟩
        cases hl : letP (cutL s).2.1 with
        | none => exact .inr rfl
        | some x =>
          rw [hl] at k3
          rcases k3 with k3 | k3
          · exact .inl k3
          · cases k3
    · have hask1 : askL L s = if (cutL s).1 = cRou then rouR L (cutL s).2.1 else match manyOf (cutL s).1 with | none => ([], [], false) | some m => matR [] m (matsL L (cutL s).2.1) := by
        rw [hask]; exact if_neg h1
      by_cases h2 : (cutL s).1 = cRou
      · refine hN _ ?_ h1 4 148 (by rw [h2]; rfl) (say_route hrs)
        rw [hask1, if_pos h2]
        unfold rouR
        by_cases h3 : (cutL (cutL s).2.1).2.2 = true ∧ roadB (cutL (cutL s).2.1).1 = true
        · rw [if_pos h3, matR_ok _ _ _ (Nat.le_refl _), h3.1, h3.2]; rfl
        · rw [if_neg h3]
          symm
          rw [Bool.eq_false_iff]
          intro h4
          simp only [Bool.and_eq_true] at h4
          exact h3 ⟨h4.1, h4.2.1⟩
      · rw [if_neg h2] at hask1
        by_cases q0 : (cutL s).1 = cSim
        · refine hN _ ?_ h1 2 146 (by rw [q0]; rfl) (say_look (lo := 2) (hi := 2) fun w1 hw1 => w_similar p b (tx (cutL s).2.1) L m w1 hrz hw1)
          rw [hask1, q0, show manyOf cSim = some 2 from rfl]
          exact matR_ok _ _ _ (by decide)
        by_cases q1 : (cutL s).1 = cCen
        · refine hN _ ?_ h1 6 150 (by rw [q1]; rfl) (say_look (lo := 1) (hi := 1048576) fun w1 hw1 => w_centraliser p b (tx (cutL s).2.1) L m w1 hrz hw1)
          rw [hask1, q1, show manyOf cCen = some 0 from rfl]
          dsimp only
          cases hm : matsL L (cutL s).2.1 with
          | none => rfl
          | some l =>
            have := mats_len L _ l hm
            show true = (decide (1 ≤ l.length) && decide (l.length ≤ 1048576))
            rw [decide_eq_true (by omega), decide_eq_true (by omega)]
            rfl
        by_cases q2 : (cutL s).1 = cFro
        · refine hN _ ?_ h1 1 145 (by rw [q2]; rfl) (say_look (lo := 1) (hi := 1) fun w1 hw1 => w_frobenius p b (tx (cutL s).2.1) L m w1 hrz hw1)
          rw [hask1, q2, show manyOf cFro = some 1 from rfl]
          exact matR_ok _ _ _ (by decide)
        by_cases q3 : (cutL s).1 = cCha
        · refine hN _ ?_ h1 3 147 (by rw [q3]; rfl) (say_look (lo := 1) (hi := 1) fun w1 hw1 => w_char p b (tx (cutL s).2.1) L m w1 hrz hw1)
          rw [hask1, q3, show manyOf cCha = some 1 from rfl]
          exact matR_ok _ _ _ (by decide)
        by_cases q4 : (cutL s).1 = cMin
        · refine hN _ ?_ h1 5 149 (by rw [q4]; rfl) (say_look (lo := 1) (hi := 1) fun w1 hw1 => w_minpoly p b (tx (cutL s).2.1) L m w1 hrz hw1)
          rw [hask1, q4, show manyOf cMin = some 1 from rfl]
          exact matR_ok _ _ _ (by decide)
        by_cases q5 : (cutL s).1 = cRan
        · refine hN _ ?_ h1 7 151 (by rw [q5]; rfl) (say_look (lo := 1) (hi := 1) fun w1 hw1 => w_rank p b (tx (cutL s).2.1) L m w1 hrz hw1)
          rw [hask1, q5, show manyOf cRan = some 1 from rfl]
          exact matR_ok _ _ _ (by decide)
        by_cases q6 : (cutL s).1 = cDet
        · refine hN _ ?_ h1 8 152 (by rw [q6]; rfl) (say_look (lo := 1) (hi := 1) fun w1 hw1 => w_det p b (tx (cutL s).2.1) L m w1 hrz hw1)
          rw [hask1, q6, show manyOf cDet = some 1 from rfl]
          exact matR_ok _ _ _ (by decide)
        by_cases q7 : (cutL s).1 = cInv
        · refine hN _ ?_ h1 9 153 (by rw [q7]; rfl) (say_look (lo := 1) (hi := 1) fun w1 hw1 => w_inverse p b (tx (cutL s).2.1) L m w1 hrz hw1)
          rw [hask1, q7, show manyOf cInv = some 1 from rfl]
          exact matR_ok _ _ _ (by decide)
        by_cases q8 : (cutL s).1 = cKey
        · refine hN _ ?_ h1 10 154 (by rw [q8]; rfl) (say_look (lo := 1) (hi := 1) fun w1 hw1 => w_key p b (tx (cutL s).2.1) L m w1 hrz hw1)
          rw [hask1, q8, show manyOf cKey = some 1 from rfl]
          exact matR_ok _ _ _ (by decide)
        have hmn : manyOf (cutL s).1 = none := by
          unfold manyOf
          rw [if_neg q0, if_neg q1, if_neg (by rintro (h | h | h | h | h | h | h) <;> contradiction)]
        have hok : (askL L s).2.2 = false := by rw [hask1, hmn]
        have hF : fW (cutL s).1 wordsA 0 = none := fW_none _ _ _ (by
          intro x hx
          simp only [wordsA, List.mem_cons, List.not_mem_nil, or_false] at hx
          rcases hx with rfl | rfl | rfl | rfl | rfl | rfl | rfl | rfl | rfl | rfl | rfl <;> exact fun e => by first | exact h1 e.symm | exact h2 e.symm | exact q0 e.symm | exact q1 e.symm | exact q2 e.symm | exact q3 e.symm | exact q4 e.symm | exact q5 e.symm | exact q6 e.symm | exact q7 e.symm | exact q8 e.symm)
        refine (line_none p b (tx s) L m o w hsz h (.inr hF)).mono ?_
        rintro e w' ⟨k1, k2, k3⟩
        unfold LineSay
        rw [hok]
        exact ⟨k1, k2, .inr rfl⟩
  · have hok : (askL L s).2.2 = false := by unfold askL; rw [if_neg hmo]
    refine (line_none p b (tx s) L m o w hsz h (.inl (Bool.eq_false_iff.2 hmo))).mono ?_
    rintro e w' ⟨k1, k2, k3⟩
    unfold LineSay
    rw [hok]
    exact ⟨k1, k2, .inr rfl⟩
end Go.Proofs.YtinmoligjcajmaaGreatDoor
/- session.says. -/
namespace Go.Proofs.YtinmoligjcajmaaGreatDoor
open Go.RowKit Go.Vl

theorem dw_nil (p : UInt8 → Bool) (l : Tx) : l.dropWhile p = [] ↔ l.all p = true := by
  induction l with
  | nil => simp
  | cons a l ih =>
    rw [List.dropWhile_cons, List.all_cons]
    cases h : p a with
    | true => simp [ih]
    | false => simp
theorem trimB_any (l : Tx) : (Lib.trimB l 32).isEmpty = !(l.any fun c => !(c == 32)) := by
  have idem : ∀ l : Tx, (l.dropWhile (· == 32)).dropWhile (· == 32) = l.dropWhile (· == 32) := by
    intro l
    induction l with
    | nil => rfl
    | cons a l ih =>
      rw [List.dropWhile_cons]
      cases h : a == 32 with
      | true => simpa using ih
      | false => simp only [Bool.false_eq_true, if_false]; rw [List.dropWhile_cons, h]; rfl
  have key : Lib.trimB l 32 = [] ↔ l.all (· == 32) = true := by
    unfold Lib.trimB Lib.trimLeftB Lib.trimRightB
    rw [dw_nil, List.all_reverse, ← dw_nil, idem, dw_nil, List.all_reverse]
  cases h : l.any (fun c => !(c == 32)) with
  | true =>
    have : ¬ l.all (· == 32) = true := by
      intro h2
      rw [List.any_eq_true] at h
      obtain ⟨x, hx, hp⟩ := h
      have := List.all_eq_true.1 h2 x hx
      rw [this] at hp
      cases hp
    have h3 : Lib.trimB l 32 ≠ [] := fun e => this (key.1 e)
    cases hl : Lib.trimB l 32 with
    | nil => exact absurd hl h3
    | cons a r => rfl
  | false =>
    have : l.all (· == 32) = true := by
      rw [List.all_eq_true]
      intro x hx
      rw [List.any_eq_false] at h
      have := h x hx
      simpa using this
    rw [key.2 this]
    rfl

set_option maxHeartbeats 3200000 in
theorem says_any (s : ByteArray) (w : World) (hs : s.size ≤ 100000000) :
    Calls Tryz.prog 49 #[.string s] w fun e w' => Below w.heap.size w w' ∧ e = .returned (.bool (saysB s)) := by
  have Q1 := hid (Tryz.strings_HasPrefix s ⟨#[35]⟩ w)
  have hh : Lib.hasPrefix s.data.toList (⟨#[35]⟩ : ByteArray).data.toList = (s.data.toList.head? == some 35) := hp_head s 35
  rw [hh] at Q1
  clear hh
  have Q2 := hid fun w => plain_any s w (by omega)
  obtain ⟨p, hp⟩ : ∃ p, txt ((runesOf s).map plainR) = p := ⟨_, rfl⟩
  have hpl : p.data.toList = plainB s := by rw [← hp]; simp [txt, plainB]
  have hpz : p.size ≤ 9223372036854775807 := by
    have := plain_len s
    have h2 := size_len p
    rw [hpl] at h2
    omega
  rw [hp] at Q2
  have Q3 := hid fun w => Tryz.strings_Trim_one p 32 (by decide) w hpz
  have ht := trimB_any p.data.toList
  rw [hpl] at ht
  obtain ⟨T, hT⟩ : ∃ T, saysB s = T := ⟨_, rfl⟩
  have hTu := hT
  unfold saysB at hTu
  rw [hT]
  clear hT hp
  rw [hpl] at Q3
  generalize Lib.trimB (plainB s) 32 = tr at *
  have HT := hid hTu
  have HTR := hid ht
  clear hTu ht hpl hpz
  cases hd : (s.data.toList.head? == some 35) with
  | true =>
    rw [hd] at Q1
    obtain rfl : T = false := by have := HT.out; rw [hd] at this; rw [← this]; rfl
    go_enter Tryz.func49, Tryz.ntmps49
    go_wp2_with fail
    refine Q1.out.mono ?_
    rintro e w1 ⟨rfl, rfl⟩
    clear Q1 Q2 Q3
    go_wp2
    go_ret
    exact ⟨Below.refl _ _, rfl⟩
  | false =>
    rw [hd] at Q1
    obtain rfl : T = !tr.isEmpty := by have := HT.out; rw [hd, HTR.out] at *; rw [Bool.not_not, ← this]; rfl
    go_enter Tryz.func49, Tryz.ntmps49
    go_wp2_with fail
    refine Q1.out.mono ?_
    rintro e w1 ⟨rfl, rfl⟩
    go_wp2_with fail
    refine (Q2.out _).mono ?_
    rintro e w2 ⟨hb2, rfl⟩
    go_wp2_with fail
    refine (Q3.out _).mono ?_
    rintro e w3 ⟨rfl, hw3⟩
    have hb3 : Below w1.heap.size w1 w3 := by
      rcases hw3 with rfl | rfl
      · exact hb2
      · exact hb2.drew
    clear Q1 Q2 Q3 hb2 hw3
    go_wp2
    go_ret
    exact ⟨hb3, rfl⟩
end Go.Proofs.YtinmoligjcajmaaGreatDoor
/- The lines of a text, as play has them and as the document has them. -/
namespace Go.Proofs.YtinmoligjcajmaaGreatDoor
open Go.RowKit Go.Vl

def splA (cur : Tx) : Tx → List Tx
  | [] => [cur]
  | c :: l => if c.toNat = 10 then cur :: splA [] l else splA (cur ++ [c]) l
theorem splA_eq (l : Tx) : ∀ cur, splA cur l = if l.findIdx (· == 10) < l.length then (cur ++ l.take (l.findIdx (· == 10))) :: splA [] (l.drop (l.findIdx (· == 10) + 1)) else [cur ++ l] := by
  induction l with
  | nil => intro cur; simp [splA]
  | cons c l ih =>
    intro cur
    simp only [splA]
    rw [List.findIdx_cons]
    by_cases hc : c.toNat = 10
    · have : (c == 10) = true := u8_eq (c := 10) hc
      rw [if_pos hc, this]
      simp
    · have : (c == 10) = false := u8_ne (c := 10) hc
      rw [if_neg hc, this, ih]
      simp only [cond_false, List.length_cons]
      by_cases h2 : l.findIdx (· == 10) < l.length
      · rw [if_pos h2, if_pos (by omega)]
        simp
      · rw [if_neg h2, if_neg (by omega)]
        simp
theorem splitB_eq : ∀ (n : Nat) (s : ByteArray), s.size ≤ n → Lib.splitB ⟨#[10]⟩ 0 (Lib.countB s ⟨#[10]⟩) s = (splA [] s.data.toList).map tx := by
  intro n
  induction n with
  | zero =>
    intro s h
    obtain rfl := size0 s (by omega)
    rfl
  | succ n ih =>
    intro s h
    have hsl := size_len s
    have hix : Lib.indexB s ⟨#[10]⟩ = if s.data.toList.findIdx (· == 10) < s.data.toList.length then ((s.data.toList.findIdx (· == 10) : Nat) : Int) else -1 := index_one 10 _
    rw [splA_eq]
    by_cases h2 : s.data.toList.findIdx (· == 10) < s.data.toList.length
    · rw [if_pos h2] at hix ⊢
      rw [Lib.countB_hit s ⟨#[10]⟩ _ (Nat.le_refl _) hix, Nat.add_comm, Lib.splitB_hit _ _ _ _ _ hix]
      have h1 : (⟨#[10]⟩ : ByteArray).size = 1 := rfl
      rw [h1, Nat.add_zero, ext_tx s 0 _ (by omega), ext_tx2]
      have h3 := ih (tx (s.data.toList.drop (s.data.toList.findIdx (· == 10) + 1))) (by
        rw [← size_len]
        show (s.data.toList.drop (s.data.toList.findIdx (· == 10) + 1)).length ≤ n
        rw [List.length_drop]
        omega)
      rw [h3]
      rfl
    · rw [if_neg h2] at hix ⊢
      rw [Lib.countB_miss s _ hix, Lib.splitB_zero, List.nil_append]
      show [s] = [tx s.data.toList]
      rw [tx_bytes]

theorem count_len : ∀ (n : Nat) (s : ByteArray), s.size ≤ n → Lib.countB s ⟨#[10]⟩ + 1 = (splA [] s.data.toList).length := by
  intro n
  induction n with
  | zero =>
    intro s h
    obtain rfl := size0 s (by omega)
    rfl
  | succ n ih =>
    intro s h
    have hsl := size_len s
    have hix : Lib.indexB s ⟨#[10]⟩ = if s.data.toList.findIdx (· == 10) < s.data.toList.length then ((s.data.toList.findIdx (· == 10) : Nat) : Int) else -1 := index_one 10 _
    rw [splA_eq]
    by_cases h2 : s.data.toList.findIdx (· == 10) < s.data.toList.length
    · rw [if_pos h2] at hix ⊢
      have h1 : (⟨#[10]⟩ : ByteArray).size = 1 := rfl
      rw [Lib.countB_hit s ⟨#[10]⟩ _ (Nat.le_refl _) hix, h1, ext_tx2, List.length_cons]
      have h3 := ih (tx (s.data.toList.drop (s.data.toList.findIdx (· == 10) + 1))) (by
        rw [← size_len]
        show (s.data.toList.drop (s.data.toList.findIdx (· == 10) + 1)).length ≤ n
        rw [List.length_drop]
        omega)
      have h4 : (splA [] (tx (s.data.toList.drop (s.data.toList.findIdx (· == 10) + 1))).data.toList) = splA [] (s.data.toList.drop (s.data.toList.findIdx (· == 10) + 1)) := rfl
      rw [h4] at h3
      omega
    · rw [if_neg h2] at hix ⊢
      rw [Lib.countB_miss s _ hix]
      rfl

/-- play, line by line -/
def goP : List Tx → Nat → Lets → Nat → Nat × Nat
  | [], _, _, _ => (0, 0)
  | x :: r, k, L, n =>
    if saysB (tx x) = false then goP r (k + 1) L n
    else if n = 1000 then (k, 4)
    else if (askL L x).2.2 = false then (k, 280)
    else goP r (k + 1) (nextL L x) (n + 1)
theorem goP_goA (s : Tx) : ∀ (cur : Tx) (k : Nat) (L : Lets) (n : Nat), goP (splA cur s) k L n = goA (splL k cur s) L n := by
  induction s with
  | nil =>
    intro cur k L n
    simp only [splA, splL]
    by_cases h : cur = []
    · subst h
      rw [if_pos rfl]
      have : saysB (tx []) = false := by
        have h1 : plainB (tx []) = [] := by
          have := plain_len (tx [])
          have h2 : (tx []).size = 0 := rfl
          rw [h2] at this
          exact List.length_eq_zero_iff.1 (by omega)
        unfold saysB
        rw [h1]
        rfl
      simp only [goP, goA, this, if_true]
    · rw [if_neg h]
      simp only [goP, goA]
  | cons c l ih =>
    intro cur k L n
    simp only [splA, splL]
    by_cases hc : c.toNat = 10
    · rw [if_pos hc, if_pos hc]
      simp only [goP, goA]
      rw [ih, ih]
    · rw [if_neg hc, if_neg hc, ih]
theorem splA_mem (s : Tx) : ∀ (cur : Tx), (splA cur s).length ≤ s.length + 1 ∧ ∀ x ∈ splA cur s, x.length ≤ cur.length + s.length := by
  induction s with
  | nil => intro cur; simp [splA]
  | cons c l ih =>
    intro cur
    simp only [splA]
    split
    · have := ih []
      refine ⟨by simp only [List.length_cons]; omega, fun x hx => ?_⟩
      rcases List.mem_cons.1 hx with rfl | hx
      · simp only [List.length_cons]; omega
      · have := this.2 x hx
        simp only [List.length_nil, List.length_cons] at this ⊢
        omega
    · have := ih (cur ++ [c])
      refine ⟨by simp only [List.length_cons]; omega, fun x hx => ?_⟩
      have := this.2 x hx
      simp only [List.length_append, List.length_cons, List.length_nil] at this ⊢
      omega
end Go.Proofs.YtinmoligjcajmaaGreatDoor
/- session.play where lines are looked at alone; session.Check. -/
namespace Go.Proofs.YtinmoligjcajmaaGreatDoor
open Go.RowKit Go.Vl

theorem below_kept {w w0 w' : World} {p b : Nat} (h : Below w.heap.size w w0) (k : Kept w0 w' p b) (hp : w.heap.size ≤ p) (hb : w.heap.size ≤ b) : Below w.heap.size w w' :=
  ⟨k.os.trans h.os, k.tape.trans h.tape, k.output.trans h.output, Nat.le_trans h.size k.size, fun i hi => (k.block i (Nat.lt_of_lt_of_le hi h.size) (by omega) (by omega)).trans (h.block i hi)⟩

set_option maxHeartbeats 6400000 in
set_option maxRecDepth 100000 in
theorem play_any (s : ByteArray) (m : Int) (w : World) (hs9 : s.size ≤ 9223372036854775807) (hm : w.cell? ⟨1, 0, none⟩ = some (.int .i64 m)) (h1 : 1 < w.heap.size) :
    Calls Tryz.prog 23 #[.string s, .bool true, .func (.func 24) #[] #[]] w fun e w' => Below w.heap.size w w' ∧ e = .returned (.tuple #[.int .i64 ((asksL s.data.toList).1 : Nat), .int .i64 ((asksL s.data.toList).2 : Nat)]) := by
  have hsl := size_len s
  have hmm := @run_makeMap Tryz.prog
  unfold asksL
  by_cases hbig : 1048576 < s.data.toList.length
  · rw [if_pos hbig]
    have hbi : (1048576 : Int) < (s.size : Nat) := by omega
    go_enter Tryz.func23, Tryz.ntmps23
    go_wp2
    go_ret2
    exact ⟨Below.refl _ _, rfl⟩
  · rw [if_neg hbig]
    have hbi : (s.size : Nat) ≤ (1048576 : Int) := by omega
    rw [← goP_goA]
    obtain ⟨T, hT⟩ : ∃ T, goP (splA [] s.data.toList) 1 [] 0 = T := ⟨_, rfl⟩
    have hmem := splA_mem s.data.toList []
    have hsp := splitB_eq s.size s (Nat.le_refl _)
    obtain ⟨P, hP⟩ : ∃ P, splA [] s.data.toList = P := ⟨_, rfl⟩
    have hcn := count_len s.size s (Nat.le_refl _)
    rw [hP] at hT hmem hsp hcn
    rw [hP, hT]
    have HT := hid hT
    clear hT hP
    -- the player, its names
    have hb1 := (Below.refl w.heap.size w).alloc (Nat.le_refl _) (.map #[] 0)
    have hb2 := hb1.alloc hb1.size (.cells #[.map (some w.heap.size), .bool true, .slice none 0 0] 116)
    have hs1 : (w.alloc (.map #[] 0)).heap.size = w.heap.size + 1 := by simp
    obtain ⟨W2, hW2⟩ : ∃ W2, (w.alloc (.map #[] 0)).alloc (.cells #[.map (some w.heap.size), .bool true, .slice none 0 0] 116) = W2 := ⟨_, rfl⟩
    have hpl : Plays W2 (w.heap.size + 1) w.heap.size [] m (.slice none 0 0) := by
      rw [← hW2]
      refine ⟨by rw [← hs1]; exact BoxIs.new _ _ _, (names_new w).later ((Below.refl _ _).alloc (Nat.le_refl _) _), fun x hx => (by cases hx), ?_, by simp, by omega, by omega, by omega⟩
      exact cellB hb2 hm (Nat.le_refl _)
    rw [hW2] at hb2
    have hm2 := hpl.max
    have Q0 := hid (Tryz.strings_Split s ⟨#[10]⟩ m W2 (by omega) hm2 (Nat.le_refl _))
    rw [hsp, hcn] at Q0
    obtain ⟨W3, hW3⟩ : ∃ W3, W2.alloc (.cells ((P.map tx).map Value.string).toArray 9) = W3 := ⟨_, rfl⟩
    have hb23 : Below W2.heap.size W2 W3 := by rw [← hW3]; exact (Below.refl _ _).alloc (Nat.le_refl _) _
    have hpl3 := hpl.later hb23
    have hq : BoxIs W3 W2.heap.size 9 ((P.map tx).map Value.string) := by rw [← hW3]; exact BoxIs.new _ _ _
    have hb3 := hb2.trans (hb23.mono hb2.size)
    have hqs : w.heap.size + 1 < W2.heap.size := hpl.box.lt
    clear hb1 hb2 hb23 hpl hsp
    go_enter Tryz.func23, Tryz.ntmps23
    go_wp2_with fail
    refine Q0.out.mono ?_
    rintro e w3 ⟨rfl, hw3⟩
    rw [hW3] at hw3
    subst hw3
    clear Q0 hW3 hW2
    go_wp2
    have hPl : P.length ≤ 1048577 := by have := hmem.1; omega
    have HM := hid hmem.2
    have hk0 : Kept w3 w3 (w.heap.size + 1) w.heap.size := kept_below (Below.refl _ _)
    obtain ⟨p, hp⟩ : ∃ p, w.heap.size + 1 = p := ⟨_, rfl⟩
    obtain ⟨b, hbb⟩ : ∃ b, w.heap.size = b := ⟨_, rfl⟩
    obtain ⟨q, hqq⟩ : ∃ q, W2.heap.size = q := ⟨_, rfl⟩
    have hbp : b + 1 = p := by omega
    have hpq : p < q := by omega
    have HB3 := hid hb3
    have HBB := hid hbb
    rw [hp, hbb] at hpl3 hk0
    rw [hqq] at hq
    rw [hp, hqq]
    clear hmem hp hbb hqq hb3 hqs hs1 hcn hm2
    go_loopg [9, 24] P.length (fun gk v9 v24 wr => ∃ (k n : Nat) (L : Lets), gk = P.length - k ∧ v24 = .int .i64 (k : Nat) ∧ v9 = .int .i64 (n : Nat) ∧ k ≤ P.length ∧ n ≤ 1000 ∧
      Plays wr p b L m (.slice none 0 0) ∧ Kept w3 wr p b ∧ goP (P.drop k) (k + 1) L n = T)
    case atStart => exact ⟨0, 0, [], rfl, rfl, rfl, Nat.zero_le _, Nat.zero_le _, hpl3, hk0, HT.out⟩
    case round =>
      obtain ⟨k, n, L, hgk, rfl, rfl, hkl, hn, hpw, hkw, hTT⟩ := hrel
      have HGK := hid hgk
      have HTT := hid hTT
      clear hgk hTT hpl3 hk0 HT
      by_cases hlt : k < P.length
      · obtain ⟨x, hx⟩ : ∃ x, P[k]? = some x := ⟨_, List.getElem?_eq_getElem hlt⟩
        have hc3 : w3.cell? ⟨q, k, none⟩ = some (.string (tx x)) := hq.cell k _ (by rw [List.getElem?_map, List.getElem?_map, hx]; rfl)
        have hc : wr.cell? ⟨q, k, none⟩ = some (.string (tx x)) := by
          rw [World.cell?_of_block (w := w3) (hkw.block q hq.lt (by omega) (by omega))]
          exact hc3
        have hxl : x.length ≤ 1048576 := by have := HM.out x (List.mem_of_getElem? hx); simp only [List.length_nil] at this; omega
        have hki : (k : Int) < (P.length : Nat) := by omega
        have hT2 := HTT.out
        rw [drop_cons1 P k x hx] at hT2
        simp only [goP] at hT2
        have hwk : wrap64 ((k : Int) + 1) = ((k + 1 : Nat) : Int) := by unfold wrap64; omega
        have hwn : wrap64 ((n : Int) + 1) = ((n + 1 : Nat) : Int) := by unfold wrap64; omega
        have QS := hid fun w => says_any (tx x) w (by rw [← size_len]; show x.length ≤ _; omega)
        have HT2 := hid hT2
        have HBP := hid hbp
        have HWK := hid hwk
        have HWN := hid hwn
        have HQ := hid hq
        have HPL := hid hPl
        have HXL := hid hxl
        have HKL := hid hkl
        clear hT2 HTT hwk hwn hq hPl hxl hc3 hm hs9 hsl hbig hbp hpq hkl
        by_cases hsay : saysB (tx x) = false
        · rw [hsay] at QS
          have HT3 := hid (show goP (P.drop (k + 1)) (k + 1 + 1) L n = T by rw [← HT2.out, if_pos hsay])
          clear HT2
          go_wp2_with fail
          refine (QS.out _).mono ?_
          rintro e w4 ⟨hb4, rfl⟩
          have hp4 := hpw.later hb4
          have hk4 := hkw.trans (kept_below hb4)
          clear QS
          go_wp2
          go_roundg (P.length - (k + 1))
          case measure => have := HGK.out; omega
          case rel => exact ⟨k + 1, n, L, rfl, by rw [HWK.out], rfl, by have := HKL.out; omega, hn, hp4, hk4, HT3.out⟩
        · have hsay : saysB (tx x) = true := by simpa using hsay
          rw [hsay] at QS
          have hgoP := HT2.out
          rw [if_neg (by rw [hsay]; decide)] at hgoP
          have HT4 := hid hgoP
          clear HT2 hgoP
          by_cases h1000 : n = 1000
          · have hT4 : T = (k + 1, 4) := by rw [← HT4.out, if_pos h1000]
            subst hT4
            subst h1000
            have hwk := HWK.out
            have hw9 : wrap64 ((1000 : Int) + 1) = 1001 := by unfold wrap64; omega
            go_wp2_with fail
            refine (QS.out _).mono ?_
            rintro e w4 ⟨hb4, rfl⟩
            have hend := below_kept HB3.out (hkw.trans (kept_below hb4)) (by have := HBB.out; have := HBP.out; omega) (by have := HBB.out; omega)
            clear QS
            go_wp2
            go_ret2
            exact ⟨hend, rfl⟩
          · have h10 : n < 1000 := by omega
            have HT5 := hid (show (if (askL L x).2.2 = false then (k + 1, 280) else goP (P.drop (k + 1)) (k + 1 + 1) (nextL L x) (n + 1)) = T by rw [← HT4.out, if_neg h1000])
            have QL := hid fun w4 (h4 : Plays w4 p b L m (.slice none 0 0)) => line_any p b x L m _ w4 HXL.out h4
            unfold LineSay at QL
            generalize askL L x = A at *
            obtain ⟨a1, a2, ok⟩ := A
            dsimp only at HT5 QL
            have hwk := HWK.out
            have hwn := HWN.out
            have hn9 : (n : Int) + 1 ≤ 1000 := by omega
            clear HT4
            go_wp2_with fail
            refine (QS.out _).mono ?_
            rintro e w4 ⟨hb4, rfl⟩
            have hp4 := hpw.later hb4
            have hk4 := hkw.trans (kept_below hb4)
            clear QS
            go_wp2_with fail
            refine (QL.out _ hp4).mono ?_
            rintro e w5 ⟨hk5, rfl, hq5⟩
            have hk6 := hk4.trans hk5
            cases ok with
            | false =>
              have hT6 : T = (k + 1, 280) := by rw [← HT5.out]; rfl
              subst hT6
              have hend := below_kept HB3.out hk6 (by have := HBB.out; have := HBP.out; omega) (by have := HBB.out; omega)
              clear QL
              go_wp2
              go_ret2
              exact ⟨hend, rfl⟩
            | true =>
              have HT7 := hid (show goP (P.drop (k + 1)) (k + 1 + 1) (nextL L x) (n + 1) = T by rw [← HT5.out]; rfl)
              rcases hq5 with ⟨-, hp5⟩ | h
              · have hc6 := hp5.box.cell 2 _ rfl
                have hf6 := hp5.box.frozen 2
                have hp6 := hp5.out (.slice none 0 0)
                have hk7 := kept_set hk6 ⟨p, 2, none⟩ (.slice none 0 0) (.inl rfl)
                clear QL HT5
                go_wp2
                go_loopg [49] 0 (fun gj i w6 => gj = 0 ∧ i = .int .i64 0 ∧ w6 = w5)
                case atStart => exact ⟨rfl, rfl, rfl⟩
                case round =>
                  obtain ⟨-, rfl, rfl⟩ := hrel
                  go_wp2
                  go_roundg (P.length - (k + 1))
                  case measure => have := HGK.out; omega
                  case rel => exact ⟨k + 1, n + 1, nextL L x, rfl, by first | rfl | rw [HWK.out], by first | rfl | rw [HWN.out], by have := HKL.out; omega, by omega, hp6, hk7, HT7.out⟩
              · cases h
      · have hki : ¬ (k : Int) < (P.length : Nat) := by omega
        have h0 : T = (0, 0) := by rw [← HTT.out, List.drop_eq_nil_of_le (by omega)]; rfl
        subst h0
        have hend := below_kept HB3.out hkw (by have := HBB.out; omega) (by have := HBB.out; omega)
        go_wp2
        go_ret2
        exact ⟨hend, rfl⟩
end Go.Proofs.YtinmoligjcajmaaGreatDoor
/- session.Check. -/
namespace Go.Proofs.YtinmoligjcajmaaGreatDoor
open Go.RowKit Go.Vl

set_option maxHeartbeats 1600000 in
theorem check_ses (s : ByteArray) (m : Int) (w : World) (hs9 : s.size ≤ 9223372036854775807) (hm : w.cell? ⟨1, 0, none⟩ = some (.int .i64 m)) (h1 : 1 < w.heap.size) :
    Calls Tryz.prog 11 #[.string s] w fun e w' => Below w.heap.size w w' ∧ e = .returned (.tuple #[.int .i64 ((asksL s.data.toList).1 : Nat), .int .i64 ((asksL s.data.toList).2 : Nat)]) := by
  have Q1 := hid (play_any s m w hs9 hm h1)
  generalize asksL s.data.toList = A at *
  go_enter Tryz.func11, Tryz.ntmps11
  go_wp2_with fail
  refine Q1.out.mono ?_
  rintro e w1 ⟨hb1, rfl⟩
  clear Q1
  go_wp2
  go_ret2
  exact ⟨hb1, rfl⟩
end Go.Proofs.YtinmoligjcajmaaGreatDoor
