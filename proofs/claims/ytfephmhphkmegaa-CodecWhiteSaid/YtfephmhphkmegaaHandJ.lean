/- text.words and text.Fields: a range over a function that collects the words of a string. -/
import Derived.RangeFuncBox
import Derived.RangeFuncNested
import Derived.RangeFuncLeaves
import Derived.Shelf.Abstract
import Derived.OwnWalkIn
import Derived.TacticsInMore
import Derived.LoopNIn
import Derived.LoopIn
import Derived.Maps.AppendAt
import Derived.Test.YtfephmhphkmegaaHandE
namespace Go.Proofs.Ytfephmhphkmegaa.Hd
open Go.RowKit Go.Shelf Go.Proofs.YtfephmhphkmegaaW.PrintWords
set_option linter.unusedVariables false
set_option linter.unusedSimpArgs false
attribute [local go_sem] Oper.semAt_some

/-! ### the words of a list of bytes -/
def wds : List UInt8 → List UInt8 → List (List UInt8)
  | [], cur => if cur = [] then [] else [cur]
  | c :: t, cur => if Pl.wh c = true then (if cur = [] then wds t [] else cur :: wds t []) else wds t (cur ++ [c])
theorem wds_end (cur : List UInt8) (hc : cur ≠ []) (l : List UInt8) (hl : ∀ c t, l = c :: t → Pl.wh c = true) : wds l cur = cur :: wds l [] := by
  cases l with
  | nil => simp [wds, hc]
  | cons c t =>
    have h := hl c t rfl
    rw [wds, if_pos h, if_neg hc, wds, if_pos h, if_pos rfl]
theorem wds_flat : ∀ (l cur : List UInt8), (wds l cur).flatten = cur ++ Pl.strip l
  | [], cur => by
    by_cases h : cur = []
    · simp [wds, h, Pl.strip]
    · simp [wds, h, Pl.strip]
  | c :: t, cur => by
    by_cases h : Pl.wh c = true
    · by_cases hc : cur = []
      · rw [wds, if_pos h, if_pos hc, wds_flat t []]
        simp [hc, Pl.strip, h]
      · rw [wds, if_pos h, if_neg hc, List.flatten_cons, wds_flat t []]
        simp [Pl.strip, h]
    · rw [wds, if_neg h, wds_flat t _]
      simp [Pl.strip, h]

theorem twhite_c (c : UInt8) (w : World) : Calls Try.prog 49 #[.int .u8 (c.toNat : Int)] w fun e w' => e = .returned (.bool (Pl.wh c)) ∧ w = w' := by
  by_cases h9 : c = 9
  · subst h9
    go_enter Try.func49, Try.ntmps49
    go_wp2
    go_ret
    exact ⟨rfl, rfl⟩
  by_cases h10 : c = 10
  · subst h10
    go_enter Try.func49, Try.ntmps49
    go_wp2
    go_ret
    exact ⟨rfl, rfl⟩
  by_cases h13 : c = 13
  · subst h13
    go_enter Try.func49, Try.ntmps49
    go_wp2
    go_ret
    exact ⟨rfl, rfl⟩
  by_cases h32 : c = 32
  · subst h32
    go_enter Try.func49, Try.ntmps49
    go_wp2
    go_ret
    exact ⟨rfl, rfl⟩
  have hw := Aside0.mk (show Pl.wh c = false by simp [Pl.wh, h9, h10, h13, h32])
  have n9 : c.toNat ≠ 9 := fun e => h9 (UInt8.toNat_inj.1 e)
  have n10 : c.toNat ≠ 10 := fun e => h10 (UInt8.toNat_inj.1 e)
  have n13 : c.toNat ≠ 13 := fun e => h13 (UInt8.toNat_inj.1 e)
  have n32 : c.toNat ≠ 32 := fun e => h32 (UInt8.toNat_inj.1 e)
  have m9 : ((c.toNat : Int) == 9) = false := by simp; omega
  have m10 : ((c.toNat : Int) == 10) = false := by simp; omega
  have m13 : ((c.toNat : Int) == 13) = false := by simp; omega
  have m32 : ((c.toNat : Int) == 32) = false := by simp; omega
  go_enter Try.func49, Try.ntmps49
  go_wp2
  go_ret
  exact ⟨by rw [hw.out]; rfl, rfl⟩

/-! ### words -/
theorem words_in (n : Nat) (s : ByteArray) (w : World) :
    CallsIn Fence.wide n Try.prog 40 #[.string s] w fun e w' => e = .returned (.func (.func 48) #[] #[.pointer (some ⟨w.heap.size, 0, none⟩)]) ∧ w' = w.alloc (.cells #[.string s] 9) := by
  refine callsIn_of_wp Try.func40 rfl trivial ?_ rfl
  simp only [Try.ntmps40, List.size_toArray, List.length_cons, List.length_nil, Nat.reduceAdd, Nat.reduceSub, Array.replicate_succ, Array.replicate_zero, List.push_toArray, List.append_toArray, List.nil_append, List.cons_append]
  gi_wp2
  go_ret
  exact ⟨rfl, rfl⟩

/-- What a round keeps: the string that the iterator has captured. -/
def KpS (Bs : Nat) (W W' : World) : Prop := ∀ v, W.cell? ⟨Bs, 0, none⟩ = some v → W'.cell? ⟨Bs, 0, none⟩ = some v
theorem kpS_t {Bs : Nat} {A B C : World} (h : KpS Bs A B) (k : KpS Bs B C) : KpS Bs A C := fun v hv => k v (h v hv)
theorem kpS_b {Bs : Nat} {w : World} (W : World) (l : Nat) (o o' : Obj) (_ : w.heap.size ≤ l) (h : W.heap[l]? = some o) (hc : o.isCells = false) (_ : o.isWalk = false) : KpS Bs W (W.putObj l o') := fun v hv =>
  cell_kept hv (grownBy_putObj' W l o') (fun r e => by cases e; exact ⟨_, h, hc⟩)
set_option maxRecDepth 100000 in
set_option maxHeartbeats 2000000 in
theorem words1_in (n : Nat) (hn : 1 ≤ n) (l Bs : Nat) (s : ByteArray) (hs : s.size ≤ 100000000) (J Jx : List ByteArray → World → Prop)
    (hY : ∀ pre x W, J pre W → pre.length < s.size → YieldAt Fence.wide (n - 1) Try.prog l #[.string x] W fun e W' =>
      (e = .returned (.bool true) ∧ J (pre ++ [x]) W' ∧ KpS Bs W W') ∨ (e = .returned (.bool false) ∧ Jx (pre ++ [x]) W'))
    (W : World) (hBs : W.cell? ⟨Bs, 0, none⟩ = some (.string s)) (h0 : J [] W) :
    CallsIn Fence.wide n Try.prog 48 #[.func (.yield l) #[] #[], .pointer (some ⟨Bs, 0, none⟩)] W fun e W' => (∃ v, e = .returned v) ∧
      ((∃ ys : List ByteArray, ys.map dl = wds (dl s) [] ∧ J ys W') ∨ (∃ pre, True ∧ Jx pre W')) := by
  refine callsIn_of_wp Try.func48 rfl trivial ?_ rfl
  simp only [Try.ntmps48, List.size_toArray, List.length_cons, List.length_nil, Nat.reduceAdd, Nat.reduceSub, Array.replicate_succ, Array.replicate_zero, List.push_toArray, List.append_toArray, List.nil_append, List.cons_append]
  gi_wp2
  gi_loopw [3] (fun i wr => ∃ (k : Nat) (pre : List ByteArray), k ≤ s.size ∧ i = .int .i64 k ∧ Aside0 (pre.map dl ++ wds ((dl s).drop k) [] = wds (dl s) []) ∧ pre.length ≤ k ∧ Aside0 (J pre wr) ∧ Aside0 (wr.cell? ⟨Bs, 0, none⟩ = some (.string s)))
    (fun i _ => s.size - (intOf i).toNat)
  case atStart => exact ⟨0, [], Nat.zero_le _, rfl, ⟨rfl⟩, by simp, ⟨h0⟩, ⟨hBs⟩⟩
  case round =>
    obtain ⟨k, pre, hk, rfl, HE, hpl, HJ, HB⟩ := hrel
    have hcell := HB.out
    by_cases hlt : k < s.size
    · have hlt' : (k : Int) < (s.size : Int) := by omega
      obtain ⟨c, hc⟩ : ∃ c : UInt8, s[k]'hlt = c := ⟨_, rfl⟩
      have hcn : ∀ h : k < s.size, (s[k]'h).toNat = c.toNat := fun _ => by rw [hc]
      have HD := Aside0.mk (dl_drop s k hlt)
      have HC := Aside0.mk hc
      have htw := twhite_c c
      clear hc
      by_cases hw : Pl.wh c = true
      · rw [hw] at htw
        have HW := Aside0.mk hw
        clear hw
        gi_wp2_with (refine ⟨trivial, ?_⟩; gi_at_call 49; refine (callsIn_wide.2 (htw _)).mono ?_; rintro e w' ⟨rfl, rfl⟩)
        go_roundw
        case rel =>
          refine ⟨k + 1, pre, by omega, by simp, ⟨?_⟩, by omega, HJ, HB⟩
          rw [← HE.out, HD.out, HC.out, wds, if_pos HW.out, if_pos rfl]
        case measure => simp [intOf]; omega
      · have hw' : Pl.wh c = false := by simpa using hw
        rw [hw'] at htw
        have HW := Aside0.mk hw'
        clear hw hw'
        gi_wp2_with (refine ⟨trivial, ?_⟩; gi_at_call 49; refine (callsIn_wide.2 (htw _)).mono ?_; rintro e w' ⟨rfl, rfl⟩)
        obtain ⟨wo, rfl⟩ : ∃ wo : World, wo = wr := ⟨_, rfl⟩
        gi_loopw [3] (fun v w2 => ∃ i : Nat, k ≤ i ∧ i ≤ s.size ∧ v = .int .i64 i ∧ w2 = wo ∧ Aside0 (pre.map dl ++ wds ((dl s).drop i) (((dl s).drop k).take (i - k)) = wds (dl s) [])) (fun v _ => s.size - (intOf v).toNat)
        case atStart => exact ⟨k, Nat.le_refl _, hk, rfl, rfl, ⟨by rw [Nat.sub_self, List.take_zero]; exact HE.out⟩⟩
        case round =>
          obtain ⟨i, hki, his, rfl, rfl, HI⟩ := hrel
          have hend : ∀ c2 t2, (dl s).drop i = c2 :: t2 → i < s.size := fun c2 t2 h => by
            have := congrArg List.length h
            rw [List.length_drop, dl_length, List.length_cons] at this
            omega
          by_cases hgo : i < s.size ∧ Pl.wh ((dl s).getD i 0) = false
          · obtain ⟨hil, hwi⟩ := hgo
            have hil' : (i : Int) < (s.size : Int) := by omega
            obtain ⟨d, hd⟩ : ∃ d : UInt8, s[i]'hil = d := ⟨_, rfl⟩
            have hdn : ∀ h : i < s.size, (s[i]'h).toNat = d.toNat := fun _ => by rw [hd]
            have hDi := dl_drop s i hil
            have hgd : (dl s).getD i 0 = d := by
              rw [List.getD_eq_getElem?_getD, dl_at s i hil, hd]
              rfl
            rw [hgd] at hwi
            have htd := twhite_c d
            rw [hwi] at htd
            have hI := HI.out
            rw [hDi, hd, wds, if_neg (by rw [hwi]; simp)] at hI
            have htk : ((dl s).drop k).take (i + 1 - k) = ((dl s).drop k).take (i - k) ++ [d] := by
              rw [show i + 1 - k = (i - k) + 1 by omega, List.take_add_one, List.getElem?_drop, show k + (i - k) = i by omega, dl_at s i hil, hd]
              rfl
            have HI2 := Aside0.mk hI
            have HTK := Aside0.mk htk
            clear hd hDi hgd hwi hI htk
            gi_wp2_with (refine ⟨trivial, ?_⟩; gi_at_call 49; refine (callsIn_wide.2 (htd _)).mono ?_; rintro e w' ⟨rfl, rfl⟩)
            go_roundw
            case rel => exact ⟨i + 1, by omega, by omega, by simp, trivial, ⟨by rw [HTK.out]; exact HI2.out⟩⟩
            case measure => simp [intOf]; omega
          · have hki2 : k < i := by
              rcases Nat.lt_or_ge k i with h | h
              · exact h
              · exfalso
                apply hgo
                obtain rfl : i = k := by omega
                refine ⟨hlt, ?_⟩
                rw [List.getD_eq_getElem?_getD, dl_at s i hlt, HC.out]
                exact HW.out
            have hcur : ((dl s).drop k).take (i - k) ≠ [] := by
              intro h
              have := congrArg List.length h
              rw [List.length_take, List.length_drop, dl_length, List.length_nil] at this
              omega
            have hI := HI.out
            rw [wds_end _ hcur _ (fun c2 t2 h => by
              have hil := hend c2 t2 h
              have hDi := dl_drop s i hil
              rw [hDi] at h
              cases h
              have h2 : ¬ Pl.wh ((dl s).getD i 0) = false := fun e => hgo ⟨hil, e⟩
              rw [List.getD_eq_getElem?_getD, dl_at s i hil] at h2
              simpa using h2)] at hI
            have HW2 : Aside0 (pre.map dl ++ ([s.extract k i].map dl ++ wds ((dl s).drop i) []) = wds (dl s) []) := by
              refine ⟨?_⟩
              rw [← hI]
              congr 1
              show dl (s.extract k i) :: _ = _
              congr 1
              show (s.extract k i).data.toList = _
              rw [Lib.extract_data]
            have q0 : (0 : Int) ≤ (k : Int) := by omega
            have q1 : (k : Int) ≤ (i : Int) := by omega
            have q2 : (i : Int) ≤ (s.size : Int) := by omega
            have hplt : pre.length < s.size := by omega
            clear hI hcur hend
            by_cases hil : i < s.size
            · have hil' : (i : Int) < (s.size : Int) := by omega
              obtain ⟨d, hd⟩ : ∃ d : UInt8, s[i]'hil = d := ⟨_, rfl⟩
              have hdn : ∀ h : i < s.size, (s[i]'h).toNat = d.toNat := fun _ => by rw [hd]
              have hwd : Pl.wh d = true := by
                have h2 : ¬ Pl.wh ((dl s).getD i 0) = false := fun e => hgo ⟨hil, e⟩
                rw [List.getD_eq_getElem?_getD, dl_at s i hil, hd] at h2
                simpa using h2
              have htd := twhite_c d
              rw [hwd] at htd
              clear hd hwd hgo
              obtain ⟨fn, tmps, assign, body, hy, hR⟩ := hY pre (s.extract k i) wr HJ.out hplt
              gi_wp2_with (refine ⟨trivial, ?_⟩; gi_at_call 49; refine (callsIn_wide.2 (htd _)).mono ?_; rintro e w' ⟨rfl, rfl⟩)
              refine hR.mono ?_
              rintro e W3 (⟨rfl, hJ3, hk3⟩ | ⟨rfl, hJx3⟩)
              · have HJ3 := Aside0.mk hJ3
                clear hJ3
                gi_wp2
                go_roundw
                case rel => exact ⟨i, pre ++ [s.extract k i], by omega, by simp, ⟨by rw [List.map_append, List.append_assoc]; exact HW2.out⟩, by simp only [List.length_append, List.length_singleton]; omega, HJ3, ⟨hk3 _ HB.out⟩⟩
                case measure => simp [intOf]; omega
              · gi_wp2
                refine bodyPost_ret (results_none rfl _ _ _) rfl ?_
                exact ⟨⟨_, rfl⟩, .inr ⟨pre ++ [s.extract k i], trivial, hJx3⟩⟩
            · obtain rfl : i = s.size := by omega
              clear hgo
              obtain ⟨fn, tmps, assign, body, hy, hR⟩ := hY pre (s.extract k s.size) wr HJ.out hplt
              gi_wp2
              refine ⟨trivial, ?_⟩
              gi_wp2
              refine hR.mono ?_
              rintro e W3 (⟨rfl, hJ3, hk3⟩ | ⟨rfl, hJx3⟩)
              · have HJ3 := Aside0.mk hJ3
                clear hJ3
                gi_wp2
                go_roundw
                case rel => exact ⟨s.size, pre ++ [s.extract k s.size], by omega, by simp, ⟨by rw [List.map_append, List.append_assoc]; exact HW2.out⟩, by simp only [List.length_append, List.length_singleton]; omega, HJ3, ⟨hk3 _ HB.out⟩⟩
                case measure => simp [intOf]; omega
              · gi_wp2
                refine bodyPost_ret (results_none rfl _ _ _) rfl ?_
                exact ⟨⟨_, rfl⟩, .inr ⟨pre ++ [s.extract k s.size], trivial, hJx3⟩⟩
    · obtain rfl : k = s.size := by omega
      gi_wp2
      go_end0
      refine ⟨⟨_, rfl⟩, .inl ⟨pre, ?_, HJ.out⟩⟩
      have := HE.out
      rw [List.drop_of_length_le (by rw [dl_length]; omega)] at this
      rw [← this]
      simp [wds]

theorem words_stops (n : Nat) (hn : 1 ≤ n) (Bs : Nat) (s : ByteArray) (hs : s.size ≤ 100000000) (w : World) (hBs : Bs < w.heap.size) (hc : w.cell? ⟨Bs, 0, none⟩ = some (.string s)) :
    SeqStopsK Fence.wide n Try.prog 48 #[.pointer (some ⟨Bs, 0, none⟩)] (fun x : ByteArray => #[Value.string x]) (KpS Bs) (fun ys => ys.map dl = wds (dl s) []) (fun _ => True) s.size w := fun l J Jx W hW _ _ hY h0 =>
  words1_in n hn l Bs s hs J Jx hY W ((hW.cell (p := ⟨Bs, 0, none⟩) hBs).trans hc) h0

/-! ### Fields -/
theorem Try.info9 : (Try.prog.info? 9).map (fun i => (i.zero, i.size, i.bytes)) = some (some (.string ⟨#[]⟩), 1, 16) := by kernel_rfl
set_option maxRecDepth 100000 in
set_option maxHeartbeats 2000000 in
theorem Fields_in (s : ByteArray) (hs : s.size ≤ 100000000) (w : World) :
    CallsIn Fence.wide 3 Try.prog 27 #[.string s] w fun e W' => ∃ (v : Value) (ys : List ByteArray), e = .returned v ∧ ys.map dl = wds (dl s) [] ∧ ys.length ≤ s.size ∧ W'.ownsRow w.heap.size 9 1 v ys.length (ys.map Value.string) ∧ (v = .slice none 0 0 ↔ ys = []) ∧ Below w.heap.size w W' := by
  obtain ⟨i0, hi, hz0, hz1, hz2⟩ := info_parts Try.info9
  refine callsIn_of_wp_marks Try.func27 rfl trivial ?_ rfl
  simp only [Try.ntmps27, List.size_toArray, List.length_cons, List.length_nil, Nat.reduceAdd, Nat.reduceSub, Array.replicate_succ, Array.replicate_zero, List.push_toArray, List.append_toArray, List.nil_append, List.cons_append]
  gi_wp2_with (refine ⟨trivial, ?_⟩; gi_at_call 40; refine (words_in 2 s _).mono ?_; rintro e w' ⟨rfl, rfl⟩)
  have bO := Boxed.new w 32 (.slice none 0 0)
  have bN := Boxed.new (w.alloc (.cells #[.slice none 0 0] 32)) 9 (.string s)
  rw [World.size_alloc] at bN
  have hB0 : Below w.heap.size w ((w.alloc (.cells #[.slice none 0 0] 32)).alloc (.cells #[.string s] 9)) := ((Below.refl _ w).alloc (Nat.le_refl _) _).alloc (by simp) _
  refine wpIn_rangeFunc_ownG rfl (by decide) (gf := 48) (lb := #[.pointer (some ⟨w.heap.size + 1, 0, none⟩)]) rfl trivial (enters_of Try.func48 (by kernel_rfl) rfl)
    (words_stops 2 (by decide) (w.heap.size + 1) s hs _ (by simp) bN.cell) kpS_t kpS_b (Below.refl _ _) (fun _ => rfl)
    (fun pre W => (∃ v, Boxed W w.heap.size 32 v ∧ W.ownsRow (w.heap.size + 2) 9 1 v pre.length (pre.map Value.string) ∧ (v = .slice none 0 0 ↔ pre = [])) ∧ (pre.length ≤ s.size ∧ Below w.heap.size ((w.alloc (.cells #[.slice none 0 0] 32)).alloc (.cells #[.string s] 9)) W))
    (fun _ _ _ => False)
    (OwnFrom.and (Own.from (holdsRow_own (w.heap.size + 2) w.heap.size 32 9 1 (fun pre : List ByteArray => pre.length) (fun pre => pre.map Value.string) (fun pre v => v = .slice none 0 0 ↔ pre = [])) _) (OwnFrom.and (ownFrom_pure _ (fun pre : List ByteArray => pre.length ≤ s.size)) (ownFrom_below (by simp; omega) (by simp; omega))))
    (fun _ _ _ _ _ hs _ _ => hs)
    ⟨⟨_, bO.alloc _, World.ownsRow_nil _ _ _ _, by simp⟩, by simp, Below.refl _ _⟩
    (fun x => { tmps := #[.string s, undef, .slice none 0 0, .pointer (some ⟨w.heap.size, 0, none⟩), .string x, .string s, .func (.func 48) #[] #[.pointer (some ⟨w.heap.size + 1, 0, none⟩)], .string x, undef, undef, undef, undef, undef], defers := [] }) ?assign ?body ?done ?stop
  case assign =>
    intro l x W K hK
    gi_wp2
    exact hK
  case body =>
    rintro l pre x W ⟨⟨v, hv, hrow, hnil⟩, hpl, hB⟩ hlt
    have hc := hv.cell
    have hrow0 := Joins.ownsRow_le hrow (show w.heap.size ≤ w.heap.size + 2 by omega)
    have hsz2 : w.heap.size + 2 ≤ W.heap.size := by
      have := hB.size
      simp at this
      omega
    gi_wp2_with (gi_at_builtin; refine wpListIn_append_own _ rfl _ _ 32 rfl (w.heap.size + 2) 9 i0 (.string ⟨#[]⟩) 1 16 Try.underlying32 hi hz0 hz1 hz2 rfl (by decide) _ _ _ rfl (hrow.alloc _) ⟨W.heap.size, 0, none⟩ 1 1 [.string x] rfl rfl (cell_one_new _ _ _) (by simp [Value.oneCell']) (by unfold maxLen; omega) (by omega) (by simp; omega) ?_; intro v' w1 hown' hgrow _; obtain ⟨g', cap', rfl⟩ := ownsRow_succ hown'; have hown0 := Joins.ownsRow_le hown' (show w.heap.size ≤ w.heap.size + 2 by omega); obtain ⟨hv1, hv2, hr2, hk2, hb2⟩ := hv.appended (by decide) hrow0 (by omega) (Nat.le_refl _) hown0 hgrow; have hc1 := hv1.cell; have hf1 := hv1.frozen; have hr3 := hown'.kept (grownBy_setCell' w1 w.heap.size (.slice (some ⟨g', 0, none⟩) (pre.length + 1) cap')) (.inr (hv1.not_row (by decide) hown').symm))
    refine ⟨hk2.from _, ?_, ⟨_, hv2, by simpa using hr3, by simp⟩, by simp; omega, hB.trans hb2⟩
    intro u hu
    have hlt3 : w.heap.size + 1 < W.heap.size := World.block_lt_of_cell? W _ hu
    rw [World.cell?_setCell_other _ _ _ _ (by simp)]
    refine hgrow.cell ((World.cell?_alloc_lt W _ _ hlt3).trans hu) (fun e => ?_)
    have h9 : w.heap.size + 2 ≤ w.heap.size + 1 := (hrow.lt _ e.symm).1
    omega
  case done =>
    rintro D ys W hD hS ⟨⟨v, hv, hrow, hnil⟩, hpl, hB⟩ hK
    have hc := hv.cell
    gi_wp2
    refine ⟨by simp, .inl ⟨_, _, rfl, run_takeDeferred hK, ?_⟩⟩
    exact ⟨_, results_tmp rfl _ _ _, v, ys, rfl, hS, hpl, ownsRow_putObj (Joins.ownsRow_le hrow (by omega)) _ hK rfl, hnil, (hB0.trans hB).trans (belowK_b (w := w) (Nat.le_refl _) W D _ _ (by simp at hD; omega) hK rfl rfl)⟩
  case stop =>
    rintro D c pre W _ _ h _
    exact h.elim
end Go.Proofs.Ytfephmhphkmegaa.Hd
