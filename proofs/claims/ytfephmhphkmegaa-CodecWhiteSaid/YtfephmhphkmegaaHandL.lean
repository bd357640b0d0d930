/- codec.Unbase64. -/
import Derived.Test.YtfephmhphkmegaaHandK
import Derived.Deep.RegionHeld3
namespace Go.Proofs.Ytfephmhphkmegaa.Hd
open Go.RowKit Go.Maps Go.Proofs.YtfephmhphkmegaaW.PrintWords Go.Proofs.YtfephmhphkmegaaW.PrintLast Go.Proofs.YtfephmhphkmegaaW.PrintMore
set_option linter.unusedVariables false
set_option linter.unusedSimpArgs false

theorem cwhite_c (c : UInt8) (w : World) : Calls Try.prog 25 #[.int .u8 (c.toNat : Int)] w fun e w' => e = .returned (.bool (Pl.wh c)) ∧ w = w' := by
  by_cases h9 : c = 9
  · subst h9
    go_enter Try.func25, Try.ntmps25
    go_wp2
    go_ret
    exact ⟨rfl, rfl⟩
  by_cases h10 : c = 10
  · subst h10
    go_enter Try.func25, Try.ntmps25
    go_wp2
    go_ret
    exact ⟨rfl, rfl⟩
  by_cases h13 : c = 13
  · subst h13
    go_enter Try.func25, Try.ntmps25
    go_wp2
    go_ret
    exact ⟨rfl, rfl⟩
  by_cases h32 : c = 32
  · subst h32
    go_enter Try.func25, Try.ntmps25
    go_wp2
    go_ret
    exact ⟨rfl, rfl⟩
  have hw := Aside0.mk (show Pl.wh c = false by simp [Pl.wh, h9, h10, h13, h32])
  have n9 : c.toNat ≠ 9 := fun e => h9 (UInt8.toNat_inj.1 e)
  have n10 : c.toNat ≠ 10 := fun e => h10 (UInt8.toNat_inj.1 e)
  have n13 : c.toNat ≠ 13 := fun e => h13 (UInt8.toNat_inj.1 e)
  have n32 : c.toNat ≠ 32 := fun e => h32 (UInt8.toNat_inj.1 e)
  have m9 : ((c.toNat : Int) == 9) = false := by simp; omega
  have m10 : ((c.toNat : Int) == 10) = false := by simp; omega
  have m13 : ((c.toNat : Int) == 13) = false := by simp; omega
  have m32 : ((c.toNat : Int) == 32) = false := by simp; omega
  go_enter Try.func25, Try.ntmps25
  go_wp2
  go_ret
  exact ⟨by rw [hw.out]; rfl, rfl⟩
theorem or64 (l v : Nat) (hl : l < 262144) (hv : v < 64) : bits .or .i64 ((l : Int) * 64) (v : Int) = ((l * 64 + v : Nat) : Int) := by
  rw [bits_join .i64 62 (by decide) wraps_i64 6 _ _ (by omega) (by omega) (by omega) (by omega) (by omega) (by omega)]
  omega
theorem byte_of (x : Nat) (d : Nat) (hd : 0 < d) : IntKind.u8.wrap ((x : Int) / (d : Int)) = ((UInt8.ofNat (x / d)).toNat : Int) := by
  rw [← Int.natCast_ediv, IntKind.wrap_u8, UInt8.toNat_ofNat']
  omega
theorem byte_of1 (x : Nat) : IntKind.u8.wrap (x : Int) = ((UInt8.ofNat x).toNat : Int) := by
  rw [IntKind.wrap_u8, UInt8.toNat_ofNat']
  omega
theorem unbase_of (s out : List UInt8) (l n : Nat) (R : List UInt8) (h1 : out = (Pl.un64 s 0 0).1) (h2 : (Pl.un64 s 0 0).2 = (l, n, R)) :
    Pl.unbase s = (out ++ Pl.unTail l n, decide (n ≠ 1) && decide (Pl.strip R = List.replicate (Pl.missing n) 61)) := by
  unfold Pl.unbase
  rw [← h1, h2]
theorem un_bound (n l : Nat) (hn : n ≤ 3) (hl : l < 64 ^ n) : l < 262144 := by
  obtain rfl | rfl | rfl | rfl : n = 0 ∨ n = 1 ∨ n = 2 ∨ n = 3 := by omega
  all_goals omega
theorem un_next (n l v : Nat) (hn : n < 3) (hl : l < 64 ^ n) (hv : v < 64) : l * 64 + v < 64 ^ (n + 1) := by
  rw [Nat.pow_succ]
  omega

set_option maxHeartbeats 8000000 in
set_option maxRecDepth 100000 in
theorem Unbase64_calls (s : ByteArray) (hs : s.size ≤ 100000000) (w : World) :
    Calls Try.prog 11 #[.string s] w fun e w' => e = .returned (.tuple #[.string ⟨(Pl.unbase (dl s)).1.toArray⟩, .bool (Pl.unbase (dl s)).2]) ∧ Below w.heap.size w w' := by
  have qd : (0 : Int) ≤ (s.size : Int) / 4 := by omega
  have qd2 : (s.size : Int) / 4 ≤ 100000000 := by omega
  go_enter Try.func11, Try.ntmps11
  go_wp2_with (first
    | (go_at_call 24; refine (b64tab_calls _).mono ?_; rintro e w1 ⟨rfl, hT1, hB1⟩; have HT1 := Lib.hid hT1; have HB1 := Lib.hid hB1; clear hT1 hB1)
    | (at_make; refine HandW.R_make0 (Kd.int .u8) _ 5 rfl (N := 19) rfl 24 _ _ rfl _ rfl rfl Try.underlying24 (.int .u8 0) 1 info5 (by omega) (ok := fun _ => True) trivial (by omega) (by omega) (Below.refl _ _) (Nat.le_refl _) ?_; intro v5 w3 ho3 hb3 _ _))
  have HR3 := Lib.hid (BR.of_R ho3)
  have HT3 := Lib.hid (HT1.out.below hb3 HT1.out.lt)
  have hlt1 : w.heap.size < w1.heap.size := HT1.out.lt
  have HB3 := Lib.hid (HB1.out.trans (hb3.mono HB1.out.size))
  have hs3 := hb3.size
  clear ho3 hb3 qd qd2
  go_loopw [5, 6, 7, 8] (fun v lv nv i wr => ∃ (k l n : Nat) (out : List UInt8), i = .int .i64 k ∧ lv = .int .i64 l ∧ nv = .int .i64 n ∧ k ≤ s.size ∧ n ≤ 3 ∧ Aside0 (l < 64 ^ n) ∧ out.length ≤ 3 * k ∧
      Hid (out ++ (Pl.un64 ((dl s).drop k) l n).1 = (Pl.un64 (dl s) 0 0).1) ∧ Hid ((Pl.un64 ((dl s).drop k) l n).2 = (Pl.un64 (dl s) 0 0).2) ∧
      Hid (BR wr w1.heap.size v out) ∧ Hid (IsTab wr w.heap.size 64 Pl.val64) ∧ Hid (Below w.heap.size w wr) ∧ w1.heap.size ≤ wr.heap.size) (fun _ _ _ i _ => s.size - (intOf i).toNat)
  case atStart => exact ⟨0, 0, 0, [], rfl, rfl, rfl, by omega, by omega, ⟨by decide⟩, by simp, Lib.hid rfl, Lib.hid rfl, HR3, HT3, HB3, hs3⟩
  case round =>
    obtain ⟨k, l, n, out, rfl, rfl, rfl, hk, hn, HL, hol, HE1, HE2, HR, HT, HB, hsz⟩ := hrel
    by_cases hlt : k < s.size
    · have hlt' : (k : Int) < (s.size : Int) := by omega
      obtain ⟨c, hc⟩ : ∃ c : UInt8, s[k]'hlt = c := ⟨_, rfl⟩
      have hcn : ∀ h : k < s.size, (s[k]'h).toNat = c.toNat := fun _ => by rw [hc]
      have hD := dl_drop s k hlt
      rw [hc] at hD
      have HD := Aside0.mk hD
      have HC := Aside0.mk hc
      have hwh := cwhite_c c
      clear hc hD
      by_cases hw : Pl.wh c = true
      · rw [hw] at hwh
        have HW := Aside0.mk hw
        clear hw
        go_wp2_with (go_at_call 25; refine (hwh _).mono ?_; rintro e w4 ⟨rfl, rfl⟩)
        go_roundw
        case rel =>
          refine ⟨k + 1, l, n, out, by go_num, rfl, rfl, by omega, hn, HL, by omega, Lib.hid ?_, Lib.hid ?_, HR, HT, HB, hsz⟩
          · rw [← HE1.out, HD.out, Pl.un64_white _ _ _ _ HW.out]
          · rw [← HE2.out, HD.out, Pl.un64_white _ _ _ _ HW.out]
        case measure => simp [intOf]; omega
      · have hw' : Pl.wh c = false := by simpa using hw
        rw [hw'] at hwh
        have HW := Aside0.mk hw'
        clear hw hw'
        obtain ⟨D, hown, hM, hf⟩ := HT.out
        have Hown := Lib.hid hown
        have hkey := key_u8 c
        obtain ⟨hh, ha⟩ := hf c
        clear hf hown
        have hl2 := un_bound n l hn HL.out
        cases hv : Pl.val64 c with
        | none =>
          rw [hv] at hh ha
          simp only [Option.isSome_none, Option.getD_none] at hh ha
          have HV := Aside0.mk hv
          have HF1 : Hid (out = (Pl.un64 (dl s) 0 0).1) := Lib.hid (by rw [← HE1.out, HD.out, Pl.un64_stop _ _ _ _ HW.out hv, List.append_nil])
          have HF2 : Hid ((Pl.un64 (dl s) 0 0).2 = (l, n, (dl s).drop k)) := Lib.hid (by rw [← HE2.out, HD.out, Pl.un64_stop _ _ _ _ HW.out hv])
          clear hv ha
          have q0 : (0 : Int) ≤ (k : Int) := by omega
          have q1 : (k : Int) ≤ (s.size : Int) := by omega
          have hez := ext_size s k s.size (Nat.le_refl _)
          have hFd := fun W => callsIn_wide.1 (Fields_in (s.extract k s.size) (by rw [hez]; omega) W)
          rw [dl_tail s k] at hFd
          have HEZ := Aside0.mk hez
          have hstl : (Pl.strip ((dl s).drop k)).length ≤ 100000000 := Nat.le_trans (List.length_filter_le _ _) (by rw [List.length_drop, dl_length]; omega)
          have hl2' := un_bound n l hn HL.out
          clear hez
          obtain rfl | rfl | rfl | rfl : n = 0 ∨ n = 1 ∨ n = 2 ∨ n = 3 := by omega
          · have hrp : ∀ W, Calls Try.prog 28 #[.string ⟨#[61]⟩, .int .i64 0] W fun e w' => e = .returned (.string ⟨(List.replicate 0 (61 : UInt8)).toArray⟩) ∧ Below W.heap.size W w' := fun W => rep_c 0 (by omega) W
            go_wp2_with (first
              | (go_at_call 25; refine (hwh _).mono ?_; rintro e w4 ⟨rfl, rfl⟩)
              | (at_lookup; refine wpList_lookup_own_ok_int _ rfl _ _ 44 rfl 5 3 .i64 law5 Try.underlying44 Try.underlying3 (zero3 _) w.heap.size 64 _ rfl Hown.out _ _ rfl hkey ?_; intro c0 hat0 hwc0; clear hat0)
              | (go_at_call 27; refine (hFd _).mono ?_; rintro e w7 ⟨v7, ys, rfl, hys, hyl, hyo, hyn, hb7⟩; have HB7 := Lib.hid (HB.out.trans (hb7.mono HB.out.size)); have HR7 := Lib.hid (HR.out.below hb7); have hjn := join_c v7 ys _ w7 hb7.size hyo hyn (Nat.le_trans hyl (by rw [HEZ.out]; omega)) (by rw [hys, wds_flat]; exact hstl); rw [hys, wds_flat, List.nil_append] at hjn; clear hb7 hys hyo hyn)
              | (go_at_call 26; refine hjn.mono ?_; rintro e w8 ⟨rfl, hb8⟩; have HB8 := Lib.hid (HB7.out.trans (hb8.mono HB7.out.size)); have HR8 := Lib.hid (HR7.out.below hb8); clear hb8 hjn))
            have HRd : BR w8.drew w1.heap.size u5 (out) := HR8.out
            go_region_held3 (fun W => (convert 24 9 u5).run Try.prog W = .ok (.string ⟨(out).toArray⟩) W) (first | exact HRd.string | exact (HRd.below (by assumption)).string) (first | (go_at_call 28; refine (hrp _).mono ?_; rintro e w9 ⟨rfl, hb9⟩))
            go_wp2
            go_ret2
            refine ⟨?_, HB8.out.drew.trans (Below.mono (by assumption) HB8.out.size)⟩
            rw [unbase_of _ _ _ _ _ HF1.out HF2.out]
            show Ending.returned (.tuple #[.string ⟨(out).toArray⟩, .bool ((Pl.strip ((dl s).drop k)).isEmpty)]) = _
            have eb : ((Pl.strip ((dl s).drop k)).isEmpty) = (decide (0 ≠ 1) && decide (Pl.strip ((dl s).drop k) = List.replicate (Pl.missing 0) 61)) := by rw [Bool.eq_iff_iff]; simp [Pl.missing, List.replicate]
            rw [eb]
            simp [Pl.unTail]
          · have hrp : ∀ W, Calls Try.prog 28 #[.string ⟨#[61]⟩, .int .i64 0] W fun e w' => e = .returned (.string ⟨(List.replicate 0 (61 : UInt8)).toArray⟩) ∧ Below W.heap.size W w' := fun W => rep_c 0 (by omega) W
            go_wp2_with (first
              | (go_at_call 25; refine (hwh _).mono ?_; rintro e w4 ⟨rfl, rfl⟩)
              | (at_lookup; refine wpList_lookup_own_ok_int _ rfl _ _ 44 rfl 5 3 .i64 law5 Try.underlying44 Try.underlying3 (zero3 _) w.heap.size 64 _ rfl Hown.out _ _ rfl hkey ?_; intro c0 hat0 hwc0; clear hat0)
              | (go_at_call 27; refine (hFd _).mono ?_; rintro e w7 ⟨v7, ys, rfl, hys, hyl, hyo, hyn, hb7⟩; have HB7 := Lib.hid (HB.out.trans (hb7.mono HB.out.size)); have HR7 := Lib.hid (HR.out.below hb7); have hjn := join_c v7 ys _ w7 hb7.size hyo hyn (Nat.le_trans hyl (by rw [HEZ.out]; omega)) (by rw [hys, wds_flat]; exact hstl); rw [hys, wds_flat, List.nil_append] at hjn; clear hb7 hys hyo hyn)
              | (go_at_call 26; refine hjn.mono ?_; rintro e w8 ⟨rfl, hb8⟩; have HB8 := Lib.hid (HB7.out.trans (hb8.mono HB7.out.size)); have HR8 := Lib.hid (HR7.out.below hb8); clear hb8 hjn))
            have hcv0 := HR8.out.string
            have hcv1 : ∀ j, (convert 24 9 u5).run Try.prog (w8.drewN j) = .ok (.string ⟨(out).toArray⟩) (w8.drewN j) := fun j => (HR8.out.below (pw_below_drewN (Below.refl _ _) j)).string
            go_quiet (fail)
            go_wp2
            go_ret2
            refine ⟨?_, pw_below_drewN HB8.out _⟩
            rw [unbase_of _ _ _ _ _ HF1.out HF2.out]
            simp [Pl.unTail]
          · have hrp : ∀ W, Calls Try.prog 28 #[.string ⟨#[61]⟩, .int .i64 2] W fun e w' => e = .returned (.string ⟨(List.replicate 2 (61 : UInt8)).toArray⟩) ∧ Below W.heap.size W w' := fun W => rep_c 2 (by omega) W
            have hbt : IntKind.u8.wrap ((l : Int) / 16) = ((UInt8.ofNat (l / 16)).toNat : Int) := byte_of l 16 (by omega)
            go_wp2_with (first
              | (go_at_call 25; refine (hwh _).mono ?_; rintro e w4 ⟨rfl, rfl⟩)
              | (at_lookup; refine wpList_lookup_own_ok_int _ rfl _ _ 44 rfl 5 3 .i64 law5 Try.underlying44 Try.underlying3 (zero3 _) w.heap.size 64 _ rfl Hown.out _ _ rfl hkey ?_; intro c0 hat0 hwc0; clear hat0)
              | (at_builtin; (with_reducible apply wp_app (w := wr) (m := [UInt8.ofNat (l / 16)]) (n := 1) (l := out) (base := w1.heap.size)); (case hgd => rfl); (case ho => rfl); (case hs => rfl); (case hm => rfl); (case hcs => rfl); (case hx => rfl); (case hB => exact HR.out); (case hb => exact hsz); (case hl => simp only [List.length_cons, List.length_nil]; omega); intro v8 w6 ho6 hb6; have HR6 := Lib.hid ho6; have HB6 := Lib.hid (HB.out.trans (hb6.mono (by omega))); clear ho6 hb6)
              | (go_at_call 27; refine (hFd _).mono ?_; rintro e w7 ⟨v7, ys, rfl, hys, hyl, hyo, hyn, hb7⟩; have HB7 := Lib.hid (HB6.out.trans (hb7.mono HB6.out.size)); have HR7 := Lib.hid (HR6.out.below hb7); have hjn := join_c v7 ys _ w7 hb7.size hyo hyn (Nat.le_trans hyl (by rw [HEZ.out]; omega)) (by rw [hys, wds_flat]; exact hstl); rw [hys, wds_flat, List.nil_append] at hjn; clear hb7 hys hyo hyn)
              | (go_at_call 26; refine hjn.mono ?_; rintro e w8 ⟨rfl, hb8⟩; have HB8 := Lib.hid (HB7.out.trans (hb8.mono HB7.out.size)); have HR8 := Lib.hid (HR7.out.below hb8); clear hb8 hjn))
            have HRd : BR w8.drew w1.heap.size v8 (out ++ [UInt8.ofNat (l / 16)]) := HR8.out
            go_region_held3 (fun W => (convert 24 9 v8).run Try.prog W = .ok (.string ⟨(out ++ [UInt8.ofNat (l / 16)]).toArray⟩) W) (first | exact HRd.string | exact (HRd.below (by assumption)).string) (first | (go_at_call 28; refine (hrp _).mono ?_; rintro e w9 ⟨rfl, hb9⟩))
            go_wp2
            go_ret2
            refine ⟨?_, HB8.out.drew.trans (Below.mono (by assumption) HB8.out.size)⟩
            rw [unbase_of _ _ _ _ _ HF1.out HF2.out]
            show Ending.returned (.tuple #[.string ⟨(out ++ [UInt8.ofNat (l / 16)]).toArray⟩, .bool (Pl.strip ((dl s).drop k) == [61, 61])]) = _
            have eb : (Pl.strip ((dl s).drop k) == [61, 61]) = (decide (2 ≠ 1) && decide (Pl.strip ((dl s).drop k) = List.replicate (Pl.missing 2) 61)) := by rw [Bool.eq_iff_iff]; simp [Pl.missing, List.replicate]
            rw [eb]
            simp [Pl.unTail]
          · have hrp : ∀ W, Calls Try.prog 28 #[.string ⟨#[61]⟩, .int .i64 1] W fun e w' => e = .returned (.string ⟨(List.replicate 1 (61 : UInt8)).toArray⟩) ∧ Below W.heap.size W w' := fun W => rep_c 1 (by omega) W
            have hbt : IntKind.u8.wrap ((l : Int) / 1024) = ((UInt8.ofNat (l / 1024)).toNat : Int) := byte_of l 1024 (by omega)
            have hbt2 : IntKind.u8.wrap ((l : Int) / 4) = ((UInt8.ofNat (l / 4)).toNat : Int) := byte_of l 4 (by omega)
            go_wp2_with (first
              | (go_at_call 25; refine (hwh _).mono ?_; rintro e w4 ⟨rfl, rfl⟩)
              | (at_lookup; refine wpList_lookup_own_ok_int _ rfl _ _ 44 rfl 5 3 .i64 law5 Try.underlying44 Try.underlying3 (zero3 _) w.heap.size 64 _ rfl Hown.out _ _ rfl hkey ?_; intro c0 hat0 hwc0; clear hat0)
              | (at_builtin; (with_reducible apply wp_app (w := wr) (m := [UInt8.ofNat (l / 1024), UInt8.ofNat (l / 4)]) (n := 2) (l := out) (base := w1.heap.size)); (case hgd => rfl); (case ho => rfl); (case hs => rfl); (case hm => rfl); (case hcs => rfl); (case hx => rfl); (case hB => exact HR.out); (case hb => exact hsz); (case hl => simp only [List.length_cons, List.length_nil]; omega); intro v8 w6 ho6 hb6; have HR6 := Lib.hid ho6; have HB6 := Lib.hid (HB.out.trans (hb6.mono (by omega))); clear ho6 hb6)
              | (go_at_call 27; refine (hFd _).mono ?_; rintro e w7 ⟨v7, ys, rfl, hys, hyl, hyo, hyn, hb7⟩; have HB7 := Lib.hid (HB6.out.trans (hb7.mono HB6.out.size)); have HR7 := Lib.hid (HR6.out.below hb7); have hjn := join_c v7 ys _ w7 hb7.size hyo hyn (Nat.le_trans hyl (by rw [HEZ.out]; omega)) (by rw [hys, wds_flat]; exact hstl); rw [hys, wds_flat, List.nil_append] at hjn; clear hb7 hys hyo hyn)
              | (go_at_call 26; refine hjn.mono ?_; rintro e w8 ⟨rfl, hb8⟩; have HB8 := Lib.hid (HB7.out.trans (hb8.mono HB7.out.size)); have HR8 := Lib.hid (HR7.out.below hb8); clear hb8 hjn))
            have HRd : BR w8.drew w1.heap.size v8 (out ++ [UInt8.ofNat (l / 1024), UInt8.ofNat (l / 4)]) := HR8.out
            go_region_held3 (fun W => (convert 24 9 v8).run Try.prog W = .ok (.string ⟨(out ++ [UInt8.ofNat (l / 1024), UInt8.ofNat (l / 4)]).toArray⟩) W) (first | exact HRd.string | exact (HRd.below (by assumption)).string) (first | (go_at_call 28; refine (hrp _).mono ?_; rintro e w9 ⟨rfl, hb9⟩))
            go_wp2
            go_ret2
            refine ⟨?_, HB8.out.drew.trans (Below.mono (by assumption) HB8.out.size)⟩
            rw [unbase_of _ _ _ _ _ HF1.out HF2.out]
            show Ending.returned (.tuple #[.string ⟨(out ++ [UInt8.ofNat (l / 1024), UInt8.ofNat (l / 4)]).toArray⟩, .bool (Pl.strip ((dl s).drop k) == [61])]) = _
            have eb : (Pl.strip ((dl s).drop k) == [61]) = (decide (3 ≠ 1) && decide (Pl.strip ((dl s).drop k) = List.replicate (Pl.missing 3) 61)) := by rw [Bool.eq_iff_iff]; simp [Pl.missing, List.replicate]
            rw [eb]
            simp [Pl.unTail]
        | some v =>
          have hv64 := Pl.val_lt _ _ hv
          rw [hv] at hh ha
          simp only [Option.isSome_some, Option.getD_some] at hh ha
          have HV := Aside0.mk hv
          have Ha := Lib.hid ha
          obtain ⟨L, hL⟩ : ∃ L : Nat, L = l * 64 + v := ⟨_, rfl⟩
          have HLL := Aside0.mk hL
          have hb1 : IntKind.u8.wrap ((L : Int) / 65536) = ((UInt8.ofNat (L / 65536)).toNat : Int) := byte_of L 65536 (by omega)
          have hb2 : IntKind.u8.wrap ((L : Int) / 256) = ((UInt8.ofNat (L / 256)).toNat : Int) := byte_of L 256 (by omega)
          have hb3 : IntKind.u8.wrap (L : Int) = ((UInt8.ofNat L).toNat : Int) := byte_of1 L
          have hLs : L < 16777216 := by omega
          clear hv ha hL
          by_cases h3 : n = 3
          · subst h3
            go_wp2_with (first
              | (go_at_call 25; refine (hwh _).mono ?_; rintro e w4 ⟨rfl, rfl⟩)
              | (at_lookup; refine wpList_lookup_own_ok_int _ rfl _ _ 44 rfl 5 3 .i64 law5 Try.underlying44 Try.underlying3 (zero3 _) w.heap.size 64 _ rfl Hown.out _ _ rfl hkey ?_; intro c0 hat0 hwc0; have Hc0 : Hid (c0 = (v : Int)) := Lib.hid (by (have h9 := hat0.symm.trans Ha.out; simpa using h9)); have hbo : bits .or .i64 ((l : Int) * 64) c0 = (L : Int) := (by rw [Hc0.out, HLL.out]; exact or64 l v hl2 hv64); clear hat0)
              | (at_builtin; (with_reducible apply wp_app (w := wr) (m := [UInt8.ofNat (L / 65536), UInt8.ofNat (L / 256), UInt8.ofNat L]) (n := 3) (l := out) (base := w1.heap.size)); (case hgd => rfl); (case ho => rfl); (case hs => rfl); (case hm => rfl); (case hcs => rfl); (case hx => rfl); (case hB => exact HR.out); (case hb => exact hsz); (case hl => simp only [List.length_cons, List.length_nil]; omega); intro v8 w6 ho6 hb6))
            go_roundw
            case rel =>
              refine ⟨k + 1, 0, 0, out ++ [UInt8.ofNat (L / 65536), UInt8.ofNat (L / 256), UInt8.ofNat L], by go_num, rfl, rfl, by omega, by omega, ⟨by decide⟩, by simp only [List.length_append, List.length_cons, List.length_nil]; omega, Lib.hid ?_, Lib.hid ?_, Lib.hid ho6, Lib.hid (HT.out.below hb6 hlt1), Lib.hid (HB.out.trans (hb6.mono (by omega))), Nat.le_trans hsz hb6.size⟩
              · rw [← HE1.out, HD.out, Pl.un64_four _ _ _ _ HW.out HV.out, HLL.out]
                simp
              · rw [← HE2.out, HD.out, Pl.un64_four _ _ _ _ HW.out HV.out]
            case measure => simp [intOf]; omega
          · have hn4 : ((n : Int) + 1 == 4) = false := by simp; omega
            go_wp2_with (first
              | (go_at_call 25; refine (hwh _).mono ?_; rintro e w4 ⟨rfl, rfl⟩)
              | (at_lookup; refine wpList_lookup_own_ok_int _ rfl _ _ 44 rfl 5 3 .i64 law5 Try.underlying44 Try.underlying3 (zero3 _) w.heap.size 64 _ rfl Hown.out _ _ rfl hkey ?_; intro c0 hat0 hwc0; have Hc0 : Hid (c0 = (v : Int)) := Lib.hid (by (have h9 := hat0.symm.trans Ha.out; simpa using h9)); have hbo : bits .or .i64 ((l : Int) * 64) c0 = (L : Int) := (by rw [Hc0.out, HLL.out]; exact or64 l v hl2 hv64); clear hat0))
            go_roundw
            case rel =>
              refine ⟨k + 1, L, n + 1, out, by go_num, rfl, by go_num, by omega, by omega, ⟨by rw [HLL.out]; exact un_next n l v (by omega) HL.out hv64⟩, by omega, Lib.hid ?_, Lib.hid ?_, HR, HT, HB, hsz⟩
              · rw [← HE1.out, HD.out, Pl.un64_digit _ _ _ _ _ HW.out HV.out h3, HLL.out]
              · rw [← HE2.out, HD.out, Pl.un64_digit _ _ _ _ _ HW.out HV.out h3, HLL.out]
            case measure => simp [intOf]; omega
    · have hd : (dl s).drop k = [] := List.drop_eq_nil_of_le (by rw [dl_length]; omega)
      have hge : ¬ (k : Int) < (s.size : Int) := by omega
      have HF1 : Hid (out = (Pl.un64 (dl s) 0 0).1) := Lib.hid (by rw [← HE1.out, hd]; simp [Pl.un64])
      have HF2 : Hid ((Pl.un64 (dl s) 0 0).2 = (l, n, (dl s).drop k)) := Lib.hid (by rw [← HE2.out, hd]; rfl)
      clear hd
      have q0 : (0 : Int) ≤ (k : Int) := by omega
      have q1 : (k : Int) ≤ (s.size : Int) := by omega
      have hez := ext_size s k s.size (Nat.le_refl _)
      have hFd := fun W => callsIn_wide.1 (Fields_in (s.extract k s.size) (by rw [hez]; omega) W)
      rw [dl_tail s k] at hFd
      have HEZ := Aside0.mk hez
      have hstl : (Pl.strip ((dl s).drop k)).length ≤ 100000000 := Nat.le_trans (List.length_filter_le _ _) (by rw [List.length_drop, dl_length]; omega)
      have hl2' := un_bound n l hn HL.out
      clear hez
      obtain rfl | rfl | rfl | rfl : n = 0 ∨ n = 1 ∨ n = 2 ∨ n = 3 := by omega
      · have hrp : ∀ W, Calls Try.prog 28 #[.string ⟨#[61]⟩, .int .i64 0] W fun e w' => e = .returned (.string ⟨(List.replicate 0 (61 : UInt8)).toArray⟩) ∧ Below W.heap.size W w' := fun W => rep_c 0 (by omega) W
        go_wp2_with (first
          | (go_at_call 27; refine (hFd _).mono ?_; rintro e w7 ⟨v7, ys, rfl, hys, hyl, hyo, hyn, hb7⟩; have HB7 := Lib.hid (HB.out.trans (hb7.mono HB.out.size)); have HR7 := Lib.hid (HR.out.below hb7); have hjn := join_c v7 ys _ w7 hb7.size hyo hyn (Nat.le_trans hyl (by rw [HEZ.out]; omega)) (by rw [hys, wds_flat]; exact hstl); rw [hys, wds_flat, List.nil_append] at hjn; clear hb7 hys hyo hyn)
          | (go_at_call 26; refine hjn.mono ?_; rintro e w8 ⟨rfl, hb8⟩; have HB8 := Lib.hid (HB7.out.trans (hb8.mono HB7.out.size)); have HR8 := Lib.hid (HR7.out.below hb8); clear hb8 hjn))
        have HRd : BR w8.drew w1.heap.size u5 (out) := HR8.out
        go_region_held3 (fun W => (convert 24 9 u5).run Try.prog W = .ok (.string ⟨(out).toArray⟩) W) (first | exact HRd.string | exact (HRd.below (by assumption)).string) (first | (go_at_call 28; refine (hrp _).mono ?_; rintro e w9 ⟨rfl, hb9⟩))
        go_wp2
        go_ret2
        refine ⟨?_, HB8.out.drew.trans (Below.mono (by assumption) HB8.out.size)⟩
        rw [unbase_of _ _ _ _ _ HF1.out HF2.out]
        show Ending.returned (.tuple #[.string ⟨(out).toArray⟩, .bool ((Pl.strip ((dl s).drop k)).isEmpty)]) = _
        have eb : ((Pl.strip ((dl s).drop k)).isEmpty) = (decide (0 ≠ 1) && decide (Pl.strip ((dl s).drop k) = List.replicate (Pl.missing 0) 61)) := by rw [Bool.eq_iff_iff]; simp [Pl.missing, List.replicate]
        rw [eb]
        simp [Pl.unTail]
      · have hrp : ∀ W, Calls Try.prog 28 #[.string ⟨#[61]⟩, .int .i64 0] W fun e w' => e = .returned (.string ⟨(List.replicate 0 (61 : UInt8)).toArray⟩) ∧ Below W.heap.size W w' := fun W => rep_c 0 (by omega) W
        go_wp2_with (first
          | (go_at_call 27; refine (hFd _).mono ?_; rintro e w7 ⟨v7, ys, rfl, hys, hyl, hyo, hyn, hb7⟩; have HB7 := Lib.hid (HB.out.trans (hb7.mono HB.out.size)); have HR7 := Lib.hid (HR.out.below hb7); have hjn := join_c v7 ys _ w7 hb7.size hyo hyn (Nat.le_trans hyl (by rw [HEZ.out]; omega)) (by rw [hys, wds_flat]; exact hstl); rw [hys, wds_flat, List.nil_append] at hjn; clear hb7 hys hyo hyn)
          | (go_at_call 26; refine hjn.mono ?_; rintro e w8 ⟨rfl, hb8⟩; have HB8 := Lib.hid (HB7.out.trans (hb8.mono HB7.out.size)); have HR8 := Lib.hid (HR7.out.below hb8); clear hb8 hjn))
        have hcv0 := HR8.out.string
        have hcv1 : ∀ j, (convert 24 9 u5).run Try.prog (w8.drewN j) = .ok (.string ⟨(out).toArray⟩) (w8.drewN j) := fun j => (HR8.out.below (pw_below_drewN (Below.refl _ _) j)).string
        go_quiet (fail)
        go_wp2
        go_ret2
        refine ⟨?_, pw_below_drewN HB8.out _⟩
        rw [unbase_of _ _ _ _ _ HF1.out HF2.out]
        simp [Pl.unTail]
      · have hrp : ∀ W, Calls Try.prog 28 #[.string ⟨#[61]⟩, .int .i64 2] W fun e w' => e = .returned (.string ⟨(List.replicate 2 (61 : UInt8)).toArray⟩) ∧ Below W.heap.size W w' := fun W => rep_c 2 (by omega) W
        have hbt : IntKind.u8.wrap ((l : Int) / 16) = ((UInt8.ofNat (l / 16)).toNat : Int) := byte_of l 16 (by omega)
        go_wp2_with (first
          | (at_builtin; (with_reducible apply wp_app (w := wr) (m := [UInt8.ofNat (l / 16)]) (n := 1) (l := out) (base := w1.heap.size)); (case hgd => rfl); (case ho => rfl); (case hs => rfl); (case hm => rfl); (case hcs => rfl); (case hx => rfl); (case hB => exact HR.out); (case hb => exact hsz); (case hl => simp only [List.length_cons, List.length_nil]; omega); intro v8 w6 ho6 hb6; have HR6 := Lib.hid ho6; have HB6 := Lib.hid (HB.out.trans (hb6.mono (by omega))); clear ho6 hb6)
          | (go_at_call 27; refine (hFd _).mono ?_; rintro e w7 ⟨v7, ys, rfl, hys, hyl, hyo, hyn, hb7⟩; have HB7 := Lib.hid (HB6.out.trans (hb7.mono HB6.out.size)); have HR7 := Lib.hid (HR6.out.below hb7); have hjn := join_c v7 ys _ w7 hb7.size hyo hyn (Nat.le_trans hyl (by rw [HEZ.out]; omega)) (by rw [hys, wds_flat]; exact hstl); rw [hys, wds_flat, List.nil_append] at hjn; clear hb7 hys hyo hyn)
          | (go_at_call 26; refine hjn.mono ?_; rintro e w8 ⟨rfl, hb8⟩; have HB8 := Lib.hid (HB7.out.trans (hb8.mono HB7.out.size)); have HR8 := Lib.hid (HR7.out.below hb8); clear hb8 hjn))
        have HRd : BR w8.drew w1.heap.size v8 (out ++ [UInt8.ofNat (l / 16)]) := HR8.out
        go_region_held3 (fun W => (convert 24 9 v8).run Try.prog W = .ok (.string ⟨(out ++ [UInt8.ofNat (l / 16)]).toArray⟩) W) (first | exact HRd.string | exact (HRd.below (by assumption)).string) (first | (go_at_call 28; refine (hrp _).mono ?_; rintro e w9 ⟨rfl, hb9⟩))
        go_wp2
        go_ret2
        refine ⟨?_, HB8.out.drew.trans (Below.mono (by assumption) HB8.out.size)⟩
        rw [unbase_of _ _ _ _ _ HF1.out HF2.out]
        show Ending.returned (.tuple #[.string ⟨(out ++ [UInt8.ofNat (l / 16)]).toArray⟩, .bool (Pl.strip ((dl s).drop k) == [61, 61])]) = _
        have eb : (Pl.strip ((dl s).drop k) == [61, 61]) = (decide (2 ≠ 1) && decide (Pl.strip ((dl s).drop k) = List.replicate (Pl.missing 2) 61)) := by rw [Bool.eq_iff_iff]; simp [Pl.missing, List.replicate]
        rw [eb]
        simp [Pl.unTail]
      · have hrp : ∀ W, Calls Try.prog 28 #[.string ⟨#[61]⟩, .int .i64 1] W fun e w' => e = .returned (.string ⟨(List.replicate 1 (61 : UInt8)).toArray⟩) ∧ Below W.heap.size W w' := fun W => rep_c 1 (by omega) W
        have hbt : IntKind.u8.wrap ((l : Int) / 1024) = ((UInt8.ofNat (l / 1024)).toNat : Int) := byte_of l 1024 (by omega)
        have hbt2 : IntKind.u8.wrap ((l : Int) / 4) = ((UInt8.ofNat (l / 4)).toNat : Int) := byte_of l 4 (by omega)
        go_wp2_with (first
          | (at_builtin; (with_reducible apply wp_app (w := wr) (m := [UInt8.ofNat (l / 1024), UInt8.ofNat (l / 4)]) (n := 2) (l := out) (base := w1.heap.size)); (case hgd => rfl); (case ho => rfl); (case hs => rfl); (case hm => rfl); (case hcs => rfl); (case hx => rfl); (case hB => exact HR.out); (case hb => exact hsz); (case hl => simp only [List.length_cons, List.length_nil]; omega); intro v8 w6 ho6 hb6; have HR6 := Lib.hid ho6; have HB6 := Lib.hid (HB.out.trans (hb6.mono (by omega))); clear ho6 hb6)
          | (go_at_call 27; refine (hFd _).mono ?_; rintro e w7 ⟨v7, ys, rfl, hys, hyl, hyo, hyn, hb7⟩; have HB7 := Lib.hid (HB6.out.trans (hb7.mono HB6.out.size)); have HR7 := Lib.hid (HR6.out.below hb7); have hjn := join_c v7 ys _ w7 hb7.size hyo hyn (Nat.le_trans hyl (by rw [HEZ.out]; omega)) (by rw [hys, wds_flat]; exact hstl); rw [hys, wds_flat, List.nil_append] at hjn; clear hb7 hys hyo hyn)
          | (go_at_call 26; refine hjn.mono ?_; rintro e w8 ⟨rfl, hb8⟩; have HB8 := Lib.hid (HB7.out.trans (hb8.mono HB7.out.size)); have HR8 := Lib.hid (HR7.out.below hb8); clear hb8 hjn))
        have HRd : BR w8.drew w1.heap.size v8 (out ++ [UInt8.ofNat (l / 1024), UInt8.ofNat (l / 4)]) := HR8.out
        go_region_held3 (fun W => (convert 24 9 v8).run Try.prog W = .ok (.string ⟨(out ++ [UInt8.ofNat (l / 1024), UInt8.ofNat (l / 4)]).toArray⟩) W) (first | exact HRd.string | exact (HRd.below (by assumption)).string) (first | (go_at_call 28; refine (hrp _).mono ?_; rintro e w9 ⟨rfl, hb9⟩))
        go_wp2
        go_ret2
        refine ⟨?_, HB8.out.drew.trans (Below.mono (by assumption) HB8.out.size)⟩
        rw [unbase_of _ _ _ _ _ HF1.out HF2.out]
        show Ending.returned (.tuple #[.string ⟨(out ++ [UInt8.ofNat (l / 1024), UInt8.ofNat (l / 4)]).toArray⟩, .bool (Pl.strip ((dl s).drop k) == [61])]) = _
        have eb : (Pl.strip ((dl s).drop k) == [61]) = (decide (3 ≠ 1) && decide (Pl.strip ((dl s).drop k) = List.replicate (Pl.missing 3) 61)) := by rw [Bool.eq_iff_iff]; simp [Pl.missing, List.replicate]
        rw [eb]
        simp [Pl.unTail]
end Go.Proofs.Ytfephmhphkmegaa.Hd
