-- Printed by a program of this session (printx.py) that runs the kit's print.py with texts of this session in the place of some functions; Lean checks it.
import Derived.Test.YtlldpjcnkckclaaDoorPAx0
import Derived.Test.YtlldpjcnkckclaaDoorPAx1
import Derived.Test.YtlldpjcnkckclaaDoorPAx2
import Derived.Test.YtlldpjcnkckclaaDoorPAx3
namespace Go.Proofs.YtlldpjcnkckclaaDoor.PA
open Go.RowKit Go.Proofs.YtlldpjcnkckclaaDoorW.PrintWords Go.Proofs.YtlldpjcnkckclaaDoorW.PrintLast Go.Proofs.YtlldpjcnkckclaaDoorW.PrintMore
attribute [local go_sem] max2_int min2_int max_two min_two max_three min_three max_four min_four   -- for this text's walks alone
set_option linter.unusedVariables false
set_option linter.unusedSimpArgs false

-- NOT PRINTED: function 5 (missivelaw12_MsgidRefs)

/-! ### missivelaw12_MsgidReplies: function 6 -/
mutual
def missivelaw12_MsgidReplies.j0 : Nat → List (S37) → ByteArray → Bool → Bool → Option (Bool)
  | 0, _, _, _, _ => none
  | k + 1, x0, x1, x5, x19 => if x19 = true then (some x5) else ((msgid_Refs.f k x0).bind fun t356 => (missivelaw12_MsgidReplies.l0 k x1 x5 t356 (⟨#[]⟩ : ByteArray) ([] : List ByteArray) 0))
def missivelaw12_MsgidReplies.l0 : Nat → ByteArray → Bool → List ByteArray → ByteArray → List ByteArray → Int → Option (Bool)
  | 0, _, _, _, _, _, _ => none
  | k + 1, x1, x5, x6, x7, x8, x9 => if x9 < (x6.length : Int) then (if x7.size + 1 ≤ 9223372036854775807 then (if 0 ≤ x9 then (if x7.size + 1 + (rdOf ByteArray.empty x6 x9).size ≤ 9223372036854775807 then (if x7.size + 1 + (rdOf ByteArray.empty x6 x9).size + 2 ≤ 9223372036854775807 then (if (rdOf ByteArray.empty x6 x9).toList = x1.toList then (missivelaw12_MsgidReplies.l0 k x1 x5 x6 (((x7 ++ (⟨#[60]⟩ : ByteArray)) ++ (rdOf ByteArray.empty x6 x9)) ++ (⟨#[62, 32]⟩ : ByteArray)) x8 (wrap64 (x9 + 1))) else (if x8.length < 8796093022208 then (missivelaw12_MsgidReplies.l0 k x1 x5 x6 (((x7 ++ (⟨#[60]⟩ : ByteArray)) ++ (rdOf ByteArray.empty x6 x9)) ++ (⟨#[62, 32]⟩ : ByteArray)) (x8 ++ [rdOf ByteArray.empty x6 x9]) (wrap64 (x9 + 1))) else (none))) else (none)) else (none)) else (none)) else (none)) else (if (x8.length : Int) > 99 then (if 0 ≤ (wrap64 ((wrap64 ((x8.length : Int) - 100)) + 1)) then (if (wrap64 ((wrap64 ((x8.length : Int) - 100)) + 1)) ≤ (x8.length : Int) then ((some (x8.drop ((wrap64 ((wrap64 ((x8.length : Int) - 100)) + 1)) : Int).toNat : List ByteArray)).bind fun y365 => (if y365.length < 8796093022208 then (if 1 + x1.size ≤ 9223372036854775807 then (if 1 + x1.size + 1 ≤ 9223372036854775807 then (if x7.size + 1 ≤ 9223372036854775807 then (if x7.size + 1 + x1.size ≤ 9223372036854775807 then (if x7.size + 1 + x1.size + 1 ≤ 9223372036854775807 then (if x5 = true then ((msgid_Refs.f k (([(⟨(⟨#[73, 110, 45, 82, 101, 112, 108, 121, 45, 84, 111]⟩ : ByteArray), ((⟨#[60]⟩ : ByteArray) ++ x1) ++ (⟨#[62]⟩ : ByteArray)⟩ : S37), (⟨(⟨#[82, 101, 102, 101, 114, 101, 110, 99, 101, 115]⟩ : ByteArray), ((x7 ++ (⟨#[60]⟩ : ByteArray)) ++ x1) ++ (⟨#[62]⟩ : ByteArray)⟩ : S37)] : List (S37)))).bind fun t374 => ((missiveref09_SameTexts.f k t374 (y365 ++ [x1])).bind fun t377 => (some t377))) else (some false)) else (none)) else (none)) else (none)) else (none)) else (none)) else (none))) else (none)) else (none)) else (if x8.length < 8796093022208 then (if 1 + x1.size ≤ 9223372036854775807 then (if 1 + x1.size + 1 ≤ 9223372036854775807 then (if x7.size + 1 ≤ 9223372036854775807 then (if x7.size + 1 + x1.size ≤ 9223372036854775807 then (if x7.size + 1 + x1.size + 1 ≤ 9223372036854775807 then (if x5 = true then ((msgid_Refs.f k (([(⟨(⟨#[73, 110, 45, 82, 101, 112, 108, 121, 45, 84, 111]⟩ : ByteArray), ((⟨#[60]⟩ : ByteArray) ++ x1) ++ (⟨#[62]⟩ : ByteArray)⟩ : S37), (⟨(⟨#[82, 101, 102, 101, 114, 101, 110, 99, 101, 115]⟩ : ByteArray), ((x7 ++ (⟨#[60]⟩ : ByteArray)) ++ x1) ++ (⟨#[62]⟩ : ByteArray)⟩ : S37)] : List (S37)))).bind fun t384 => ((missiveref09_SameTexts.f k t384 (x8 ++ [x1])).bind fun t387 => (some t387))) else (some false)) else (none)) else (none)) else (none)) else (none)) else (none)) else (none)))
end
def missivelaw12_MsgidReplies.f (k : Nat) (l0 : List (S37)) (a1 : ByteArray) : Option (Bool) := (missivelaw12_small.f k).bind fun t353 => ((missivelaw12_few.f k l0).bind fun t354 => (if t354 = true then ((msgid_Valid.f k a1).bind fun t355 => (missivelaw12_MsgidReplies.j0 k l0 a1 t353 (!t355))) else (missivelaw12_MsgidReplies.j0 k l0 a1 t353 true)))
theorem missivelaw12_MsgidReplies.mono_l : ∀ k, (∀ y0 y1 y2 y3, LeO (missivelaw12_MsgidReplies.j0 k y0 y1 y2 y3) (missivelaw12_MsgidReplies.j0 (k + 1) y0 y1 y2 y3)) ∧ (∀ y0 y1 y2 y3 y4 y5, LeO (missivelaw12_MsgidReplies.l0 k y0 y1 y2 y3 y4 y5) (missivelaw12_MsgidReplies.l0 (k + 1) y0 y1 y2 y3 y4 y5))
  | 0 => ⟨fun _ _ _ _ r h => by simp [missivelaw12_MsgidReplies.j0] at h, fun _ _ _ _ _ _ r h => by simp [missivelaw12_MsgidReplies.l0] at h⟩
  | k + 1 => by
    obtain ⟨ih0, ih1⟩ := missivelaw12_MsgidReplies.mono_l k
    refine ⟨?_, ?_⟩
    · intro y0 y1 y2 y3
      unfold missivelaw12_MsgidReplies.j0
      repeat' first
      | (with_reducible exact ih0 _ _ _ _)
      | (with_reducible exact ih1 _ _ _ _ _ _)
      | (with_reducible exact missivelaw12_few.mono _ _)
      | (with_reducible exact missivelaw12_small.mono _)
      | (with_reducible exact missiveref09_SameTexts.mono _ _ _)
      | (with_reducible exact msgid_Refs.mono _ _)
      | (with_reducible exact msgid_Valid.mono _ _)
      | (with_reducible exact LeO.refl _)
      | (with_reducible exact LeO.none _)
      | (with_reducible refine LeO.ite ?_ ?_)
      | (with_reducible refine LeO.bind ?_ (fun _ => ?_))
      | exact ih0 _ _ _ _
      | exact ih1 _ _ _ _ _ _
      | exact missivelaw12_few.mono _ _
      | exact missivelaw12_small.mono _
      | exact missiveref09_SameTexts.mono _ _ _
      | exact msgid_Refs.mono _ _
      | exact msgid_Valid.mono _ _
      | exact LeO.none _
      | refine LeO.ite ?_ ?_
      | refine LeO.bind ?_ (fun _ => ?_)
    · intro y0 y1 y2 y3 y4 y5
      unfold missivelaw12_MsgidReplies.l0
      repeat' first
      | (with_reducible exact ih0 _ _ _ _)
      | (with_reducible exact ih1 _ _ _ _ _ _)
      | (with_reducible exact missivelaw12_few.mono _ _)
      | (with_reducible exact missivelaw12_small.mono _)
      | (with_reducible exact missiveref09_SameTexts.mono _ _ _)
      | (with_reducible exact msgid_Refs.mono _ _)
      | (with_reducible exact msgid_Valid.mono _ _)
      | (with_reducible exact LeO.refl _)
      | (with_reducible exact LeO.none _)
      | (with_reducible refine LeO.ite ?_ ?_)
      | (with_reducible refine LeO.bind ?_ (fun _ => ?_))
      | exact ih0 _ _ _ _
      | exact ih1 _ _ _ _ _ _
      | exact missivelaw12_few.mono _ _
      | exact missivelaw12_small.mono _
      | exact missiveref09_SameTexts.mono _ _ _
      | exact msgid_Refs.mono _ _
      | exact msgid_Valid.mono _ _
      | exact LeO.none _
      | refine LeO.ite ?_ ?_
      | refine LeO.bind ?_ (fun _ => ?_)
theorem missivelaw12_MsgidReplies.mono : ∀ a0 a1 k, LeO (missivelaw12_MsgidReplies.f k a0 a1) (missivelaw12_MsgidReplies.f (k + 1) a0 a1) := by
  intro a0 a1 k
  obtain ⟨ih0, ih1⟩ := missivelaw12_MsgidReplies.mono_l k
  unfold missivelaw12_MsgidReplies.f
  repeat' first
      | (with_reducible exact ih0 _ _ _ _)
      | (with_reducible exact ih1 _ _ _ _ _ _)
      | (with_reducible exact missivelaw12_few.mono _ _)
      | (with_reducible exact missivelaw12_small.mono _)
      | (with_reducible exact missiveref09_SameTexts.mono _ _ _)
      | (with_reducible exact msgid_Refs.mono _ _)
      | (with_reducible exact msgid_Valid.mono _ _)
      | (with_reducible exact LeO.refl _)
      | (with_reducible exact LeO.none _)
      | (with_reducible refine LeO.ite ?_ ?_)
      | (with_reducible refine LeO.bind ?_ (fun _ => ?_))
      | exact ih0 _ _ _ _
      | exact ih1 _ _ _ _ _ _
      | exact missivelaw12_few.mono _ _
      | exact missivelaw12_small.mono _
      | exact missiveref09_SameTexts.mono _ _ _
      | exact msgid_Refs.mono _ _
      | exact msgid_Valid.mono _ _
      | exact LeO.none _
      | refine LeO.ite ?_ ?_
      | refine LeO.bind ?_ (fun _ => ?_)
set_option maxHeartbeats 8000000 in
set_option maxRecDepth 100000 in
theorem missivelaw12_MsgidReplies.calls (k : Nat) (A0 : Option Addr) (c0 : Nat) (l0 : List (S37)) (a1 : ByteArray) (r : Bool) (w : World) (hr0 : Kd.C k37 w A0 l0.length l0) (hc0 : l0.length ≤ c0) (h : missivelaw12_MsgidReplies.f k l0 a1 = some r) (hG_ : Go.Proofs.YtlldpjcnkckclaaDoor.Hand.Laid w) :
    Calls Tryd.prog 6 #[.slice A0 l0.length c0, .string a1] w fun e w' => e = .returned (.bool r) ∧ Below w.heap.size w w' := by
  have hu37 := Tryd.underlying37
  have HR0 := Aside0.mk hr0
  have HC0 := Aside0.mk hc0
  clear hr0 hc0
  have HB := Aside0.mk (Below.refl w.heap.size w)
  have H : ((missivelaw12_small.f k).bind fun t353 => ((missivelaw12_few.f k l0).bind fun t354 => (if t354 = true then ((msgid_Valid.f k a1).bind fun t355 => (missivelaw12_MsgidReplies.j0 k l0 a1 t353 (!t355))) else (missivelaw12_MsgidReplies.j0 k l0 a1 t353 true)))) = some r := h
  clear h
  replace H := Option.bind_eq_some_iff.mp H
  obtain ⟨t353, A30, H⟩ := H
  replace H : ((missivelaw12_few.f k l0).bind fun t354 => (if t354 = true then ((msgid_Valid.f k a1).bind fun t355 => (missivelaw12_MsgidReplies.j0 k l0 a1 t353 (!t355))) else (missivelaw12_MsgidReplies.j0 k l0 a1 t353 true))) = some r := H
  have A3 := Aside0.mk A30
  clear A30
  have HC4 := Aside0.mk H
  clear H
  go_enter Tryd.func6, Tryd.ntmps6
  go_upto_region 2 with (first | ((with_reducible refine gate_callee (f := 7) rfl ?_); refine goesL_ (some 11) rfl rfl Tryd.func7 (by kernel_rfl) rfl #[] rfl (by (try simp only [List.map_toArray, List.map_cons, List.map_nil]); first | done | rfl | (simp only [List.length_drop, List.length_take]; rfl)) ?_; (with_reducible refine (missivelaw12_small.calls k  t353 _ A3.out ?sideG).mono ?_); (case sideG => exact Go.Proofs.YtlldpjcnkckclaaDoor.Hand.Laid.below hG_ (by repeat (first | (with_reducible first | exact HB.out | apply below_alloc | apply pw_below_drewN | apply below_drew1) | exact HB.out))); rintro e w5 ⟨rfl, hb⟩; refine ⟨_, rfl, ?_⟩; have n0_ := Aside0.mk (below_step (by repeat (first | (with_reducible first | exact HB.out | apply below_alloc | apply pw_below_drewN | apply below_drew1) | exact HB.out)) hb); clear HB; have HB := n0_; clear n0_; (try clear hb); (try clear hb2); (try clear hk); (try clear hi)))
  (try simp only [Act.put, List.setIfInBounds_toArray, List.set_cons_zero, List.set_cons_succ])
  go_cut [19] (fun v19 wc => ∃ (kq : Nat) (x19_3 : Bool), v19 = .bool x19_3 ∧ Aside0 (missivelaw12_MsgidReplies.j0 kq l0 a1 t353 x19_3 = some r) ∧ Aside0 (kq ≤ k) ∧ Aside0 (Below w.heap.size w wc))
  case first =>
    have H := HC4.out
    clear HC4
    replace H := Option.bind_eq_some_iff.mp H
    obtain ⟨t354, A60, H⟩ := H
    replace H : (if t354 = true then ((msgid_Valid.f k a1).bind fun t355 => (missivelaw12_MsgidReplies.j0 k l0 a1 t353 (!t355))) else (missivelaw12_MsgidReplies.j0 k l0 a1 t353 true)) = some r := H
    have A6 := Aside0.mk A60
    clear A60
    by_cases c7 : t354 = true
    · subst c7
      have H1 : ((msgid_Valid.f k a1).bind fun t355 => (missivelaw12_MsgidReplies.j0 k l0 a1 t353 (!t355))) = some r := by rw [if_pos rfl] at H; exact H
      clear H
      have H := H1
      clear H1
      replace H := Option.bind_eq_some_iff.mp H
      obtain ⟨t355, A80, H⟩ := H
      replace H : (missivelaw12_MsgidReplies.j0 k l0 a1 t353 (!t355)) = some r := H
      have A8 := Aside0.mk A80
      clear A80
      have H' := Aside0.mk H
      clear H
      go_wp2_with (first | ((with_reducible refine gate_callee (f := 8) rfl ?_); refine goesL_ (some 13) rfl rfl Tryd.func8 (by kernel_rfl) rfl #[.slice A0 l0.length c0] rfl (by (try simp only [List.map_toArray, List.map_cons, List.map_nil]); first | done | rfl | (simp only [List.length_drop, List.length_take]; rfl)) ?_; (with_reducible refine (missivelaw12_few.calls k _ _ l0 true _ ?side1 ?side2 A6.out).mono ?_); (case side1 => repeat (first | exact (Kd.C_below HR0.out HB.out) | (with_reducible refine Kd.C_alloc ?_ _) | (with_reducible refine Kd.C_drewN ?_ _) | (with_reducible refine Kd.C_drew ?_))); (case side2 => exact HC0.out); rintro e w' ⟨rfl, ⟨nd, rfl⟩⟩; refine ⟨_, rfl, ?_⟩) | (go_at_call 13; (with_reducible refine (msgid_Valid.calls k a1 t355 _ A8.out).mono ?_); rintro e w' ⟨rfl, ⟨nd, rfl⟩⟩))
      go_meet
      case rel => exact ⟨_, (!t355), (by first | rfl | (simp; done) | (simp [*]; done)), H', ⟨by first | omega | exact Nat.le_refl _⟩, ⟨by repeat (first | (with_reducible first | exact HB.out | apply below_alloc | apply pw_below_drewN | apply below_drew1) | exact HB.out)⟩⟩
    · replace c7 := Bool.eq_false_iff.mpr c7
      subst c7
      have H1 : (missivelaw12_MsgidReplies.j0 k l0 a1 t353 true) = some r := by rw [if_neg (show ¬ (false = true) by decide)] at H; exact H
      clear H
      have H := H1
      clear H1
      have H' := Aside0.mk H
      clear H
      go_wp2_with (first | ((with_reducible refine gate_callee (f := 8) rfl ?_); refine goesL_ (some 13) rfl rfl Tryd.func8 (by kernel_rfl) rfl #[.slice A0 l0.length c0] rfl (by (try simp only [List.map_toArray, List.map_cons, List.map_nil]); first | done | rfl | (simp only [List.length_drop, List.length_take]; rfl)) ?_; (with_reducible refine (missivelaw12_few.calls k _ _ l0 false _ ?side1 ?side2 A6.out).mono ?_); (case side1 => repeat (first | exact (Kd.C_below HR0.out HB.out) | (with_reducible refine Kd.C_alloc ?_ _) | (with_reducible refine Kd.C_drewN ?_ _) | (with_reducible refine Kd.C_drew ?_))); (case side2 => exact HC0.out); rintro e w' ⟨rfl, ⟨nd, rfl⟩⟩; refine ⟨_, rfl, ?_⟩))
      go_meet
      case rel => exact ⟨_, (true), (by first | rfl | (simp; done) | (simp [*]; done)), H', ⟨by first | omega | exact Nat.le_refl _⟩, ⟨by repeat (first | (with_reducible first | exact HB.out | apply below_alloc | apply pw_below_drewN | apply below_drew1) | exact HB.out)⟩⟩
  case rest =>
    clear HC4
    try clear p2
    try clear c6
    try clear c7
    try clear c8
    obtain ⟨kq, x19_3, rfl, HA, HJ3, HB⟩ := hcut
    cases kq with
    | zero => exact absurd HA.out (by simp [missivelaw12_MsgidReplies.j0])
    | succ kj3 =>
      have H := HA.out
      clear HA
      simp only [missivelaw12_MsgidReplies.j0] at H
      by_cases c9 : x19_3 = true
      · subst c9
        have H1 : (some t353) = some r := by rw [if_pos rfl] at H; exact H
        clear H
        have H := H1
        clear H1
        obtain rfl := Option.some.inj H
        go_wp2
        go_ret
        exact ⟨by first | rfl | (simp [errW_none, errW_some] <;> rfl) | (simp [*, errW_none, errW_some] <;> rfl), by repeat (first | (with_reducible first | exact HB.out | apply below_alloc | apply pw_below_drewN | apply below_drew1) | exact HB.out)⟩
      · replace c9 := Bool.eq_false_iff.mpr c9
        subst c9
        have H1 : ((msgid_Refs.f kj3 l0).bind fun t356 => (missivelaw12_MsgidReplies.l0 kj3 a1 t353 t356 (⟨#[]⟩ : ByteArray) ([] : List ByteArray) 0)) = some r := by rw [if_neg (show ¬ (false = true) by decide)] at H; exact H
        clear H
        have H := H1
        clear H1
        replace H := Option.bind_eq_some_iff.mp H
        obtain ⟨t356, A100, H⟩ := H
        replace H : (missivelaw12_MsgidReplies.l0 kj3 a1 t353 t356 (⟨#[]⟩ : ByteArray) ([] : List ByteArray) 0) = some r := H
        have A10 := Aside0.mk A100
        clear A100
        have H' := Aside0.mk H
        clear H
        go_wp2_with (first | ((with_reducible refine gate_callee (f := 20) rfl ?_); refine goesL_ (some 22) rfl rfl Tryd.func20 (by kernel_rfl) rfl #[.slice A0 l0.length c0] rfl (by (try simp only [List.map_toArray, List.map_cons, List.map_nil]); first | done | rfl | (simp only [List.length_drop, List.length_take]; rfl)) ?_; (with_reducible refine (msgid_Refs.calls kj3 _ _ l0 t356 _ ?side1 ?side2 A10.out).mono ?_); (case side1 => repeat (first | exact (Kd.C_below HR0.out HB.out) | (with_reducible refine Kd.C_alloc ?_ _) | (with_reducible refine Kd.C_drewN ?_ _) | (with_reducible refine Kd.C_drew ?_))); (case side2 => exact HC0.out); rintro e w11 ⟨v357, rfl, ho0, hb⟩; refine ⟨_, rfl, ?_⟩; have n0_ := Aside0.mk (Kd.R_lower ho0 (below_size (by repeat (first | (with_reducible first | exact HB.out | apply below_alloc | apply pw_below_drewN | apply below_drew1) | exact HB.out)))); have n1_ := Aside0.mk (below_step (by repeat (first | (with_reducible first | exact HB.out | apply below_alloc | apply pw_below_drewN | apply below_drew1) | exact HB.out)) hb); clear HB; have HO358 := n0_; have HB := n1_; clear n0_ n1_; (try clear hb); (try clear hb2); (try clear hk); (try clear hi); (try clear ho0)))
        go_loopg [7, 8, 9] kj3 (fun kq v7 v8 v9 w' => ∃ (x7_2 : ByteArray) (x8_2 : List ByteArray) (x9_2 : Int), v7 = .string x7_2 ∧ v9 = .int .i64 x9_2 ∧ Aside0 (missivelaw12_MsgidReplies.l0 kq a1 t353 t356 x7_2 x8_2 x9_2 = some r) ∧ Aside0 (kq ≤ kj3) ∧ Aside0 (Kd.R Kd.string 9 w' w.heap.size (fun k_ => some k_ ≠ (v8 : Value).ownBlock) v357 t356) ∧ Aside0 (Kd.Q Kd.string 9 w' w.heap.size (fun k_ => some k_ ≠ (v357 : Value).ownBlock) v8 x8_2) ∧ Aside0 (Below w.heap.size w w'))
        case atStart => exact ⟨((⟨#[]⟩ : ByteArray)), (([] : List ByteArray)), (0), (by first | rfl | (simp; done) | (simp [*]; done)), (by first | rfl | (simp; done) | (simp [*]; done)), H', ⟨Nat.le_refl _⟩, ⟨by (with_reducible repeat (first | apply Kd.R_alloc | apply Kd.R_drewN | apply Kd.R_drew)); exact Kd.R_mono HO358.out (fun _ hk => (by simp [Value.ownBlock]))⟩, ⟨Kd.Q_of_R (by first | exact Kd.R_nil _ _ _ _ _ | exact Kd.N_nil _ _ _ _ _ | exact Kd.V_nil _ _ _ _ _ | exact Kd.Q_nil _ _ _ _ _ | exact Kd.S_nil _ _ _ _ _)⟩, ⟨by repeat (first | (with_reducible first | exact HB.out | apply below_alloc | apply pw_below_drewN | apply below_drew1) | exact HB.out)⟩⟩
        case round =>
          clear H'
          try clear c2
          try clear p2
          try clear c6
          try clear c7
          try clear c8
          try clear c9
          try clear p2
          obtain ⟨x7_2, x8_2, x9_2, rfl, rfl, HA, HK2, HO_6, HO_8, HB⟩ := hrel
          cases gk with
          | zero => exact absurd HA.out (by simp [missivelaw12_MsgidReplies.l0])
          | succ k2 =>
            have H := HA.out
            clear HA
            simp only [missivelaw12_MsgidReplies.l0] at H
            by_cases c12 : x9_2 < (t356.length : Int)
            · rw [if_pos c12] at H
              have c12b0 : decide (x9_2 < (t356.length : Int)) = true := decide_eq_true c12
              clear c12
              by_cases c13 : x7_2.size + 1 ≤ 9223372036854775807
              · rw [if_pos c13] at H
                have c13b0 := eq_true c13
                have c13b1 : decide (x7_2.size + 1 ≤ 9223372036854775807) = true := decide_eq_true c13
                try have c13b2 : (9223372036854775807 < x7_2.size + 1) = False := eq_false (Nat.not_lt.2 c13)
                by_cases c14 : 0 ≤ x9_2
                · rw [if_pos c14] at H
                  have c14b0 : decide (0 ≤ x9_2) = true := decide_eq_true c14
                  clear c14
                  by_cases c15 : x7_2.size + 1 + (rdOf ByteArray.empty t356 x9_2).size ≤ 9223372036854775807
                  · rw [if_pos c15] at H
                    have c15b0 := eq_true c15
                    have c15b1 : decide (x7_2.size + 1 + (rdOf ByteArray.empty t356 x9_2).size ≤ 9223372036854775807) = true := decide_eq_true c15
                    try have c15b2 : (9223372036854775807 < x7_2.size + 1 + (rdOf ByteArray.empty t356 x9_2).size) = False := eq_false (Nat.not_lt.2 c15)
                    by_cases c16 : x7_2.size + 1 + (rdOf ByteArray.empty t356 x9_2).size + 2 ≤ 9223372036854775807
                    · rw [if_pos c16] at H
                      have c16b0 := eq_true c16
                      have c16b1 : decide (x7_2.size + 1 + (rdOf ByteArray.empty t356 x9_2).size + 2 ≤ 9223372036854775807) = true := decide_eq_true c16
                      try have c16b2 : (9223372036854775807 < x7_2.size + 1 + (rdOf ByteArray.empty t356 x9_2).size + 2) = False := eq_false (Nat.not_lt.2 c16)
                      by_cases c17 : (rdOf ByteArray.empty t356 x9_2).toList = a1.toList
                      · rw [if_pos c17] at H
                        have c17b0 : ((rdOf ByteArray.empty t356 x9_2).toList == a1.toList) = true := beq_iff_eq.mpr c17
                        have c17b1 : ((rdOf ByteArray.empty t356 x9_2).toList != a1.toList) = false := bne_eq_false_iff_eq.mpr c17
                        clear c17
                        have H' := Aside0.mk H
                        clear H
                        obtain ⟨Ao18, co18, eo18⟩ := Kd.R_slice HO_6.out
                        subst eo18
                        have p359 : 0 ≤ (x9_2 : Int) := of_decide_eq_true (by first | (with_reducible assumption) | assumption)
                        have q359 : x9_2 < (t356.length : Int) := of_decide_eq_true (by first | (with_reducible assumption) | assumption)
                        obtain ⟨ad359, e359, hx359_0⟩ := Kd.at_string (Kd.R_reads' HO_6.out).2.2 x9_2 p359 q359
                        cases e359
                        replace p359 := eq_true p359
                        replace q359 := eq_true q359
                        have p360 : 0 ≤ (x9_2 : Int) := of_decide_eq_true (by first | (with_reducible assumption) | assumption)
                        have q360 : x9_2 < (t356.length : Int) := of_decide_eq_true (by first | (with_reducible assumption) | assumption)
                        obtain ⟨ad360, e360, hx360_0⟩ := Kd.at_string (Kd.R_reads' HO_6.out).2.2 x9_2 p360 q360
                        obtain rfl : ad359 = ad360 := (by injection e360)
                        replace p360 := eq_true p360
                        replace q360 := eq_true q360
                        go_wp2
                        go_roundg k2
                        case measure => have := HJ3.out; have := HK2.out; omega
                        case rel => exact ⟨(((x7_2 ++ (⟨#[60]⟩ : ByteArray)) ++ (rdOf ByteArray.empty t356 x9_2)) ++ (⟨#[62, 32]⟩ : ByteArray)), (x8_2), (wrap64 (x9_2 + 1)), (by first | rfl | (simp; done) | (simp [*]; done)), (by first | rfl | (simp; done) | (simp [*]; done)), H', ⟨by have := HJ3.out; have := HK2.out; omega⟩, ⟨by (with_reducible repeat (first | apply Kd.R_alloc | apply Kd.R_drewN | apply Kd.R_drew)); exact HO_6.out⟩, ⟨by (with_reducible repeat (first | apply Kd.Q_alloc | apply Kd.Q_drewN | apply Kd.Q_drew)); exact HO_8.out⟩, ⟨by repeat (first | (with_reducible first | exact HB.out | apply below_alloc | apply pw_below_drewN | apply below_drew1) | exact HB.out)⟩⟩
                      · rw [if_neg c17] at H
                        have c17b0 : ((rdOf ByteArray.empty t356 x9_2).toList == a1.toList) = false := beq_eq_false_iff_ne.mpr c17
                        have c17b1 : ((rdOf ByteArray.empty t356 x9_2).toList != a1.toList) = true := bne_iff_ne.mpr c17
                        by_cases c19 : x8_2.length < 8796093022208
                        · rw [if_pos c19] at H
                          have LMc19 := Aside0.mk c19
                          clear c19
                          obtain ⟨y362, hy362⟩ : ∃ y_ : List ByteArray, y_ = (x8_2 ++ [rdOf ByteArray.empty t356 x9_2]) := ⟨_, rfl⟩
                          replace H : (missivelaw12_MsgidReplies.l0 k2 a1 t353 t356 (((x7_2 ++ (⟨#[60]⟩ : ByteArray)) ++ (rdOf ByteArray.empty t356 x9_2)) ++ (⟨#[62, 32]⟩ : ByteArray)) y362 (wrap64 (x9_2 + 1))) = some r := by first | (rw [hy362]; with_reducible exact H) | (have H2_ := (Option.bind_some _ _).symm.trans H; rw [hy362]; with_reducible exact H2_) | (have H2_ := (Option.bind_some _ _).symm.trans H; with_reducible exact H2_) | with_reducible exact H | (rw [hy362]; exact H) | exact H
                          have Ny362 := Aside0.mk hy362
                          clear hy362
                          have H' := Aside0.mk H
                          clear H
                          obtain ⟨Ao20, co20, eo20⟩ := Kd.R_slice HO_6.out
                          subst eo20
                          have p359 : 0 ≤ (x9_2 : Int) := of_decide_eq_true (by first | (with_reducible assumption) | assumption)
                          have q359 : x9_2 < (t356.length : Int) := of_decide_eq_true (by first | (with_reducible assumption) | assumption)
                          obtain ⟨ad359, e359, hx359_0⟩ := Kd.at_string (Kd.R_reads' HO_6.out).2.2 x9_2 p359 q359
                          cases e359
                          replace p359 := eq_true p359
                          replace q359 := eq_true q359
                          have p360 : 0 ≤ (x9_2 : Int) := of_decide_eq_true (by first | (with_reducible assumption) | assumption)
                          have q360 : x9_2 < (t356.length : Int) := of_decide_eq_true (by first | (with_reducible assumption) | assumption)
                          obtain ⟨ad360, e360, hx360_0⟩ := Kd.at_string (Kd.R_reads' HO_6.out).2.2 x9_2 p360 q360
                          obtain rfl : ad359 = ad360 := (by injection e360)
                          replace p360 := eq_true p360
                          replace q360 := eq_true q360
                          have p361 : 0 ≤ (x9_2 : Int) := of_decide_eq_true (by first | (with_reducible assumption) | assumption)
                          have q361 : x9_2 < (t356.length : Int) := of_decide_eq_true (by first | (with_reducible assumption) | assumption)
                          obtain ⟨ad361, e361, hx361_0⟩ := Kd.at_string (Kd.R_reads' HO_6.out).2.2 x9_2 p361 q361
                          obtain rfl : ad359 = ad361 := (by injection e361)
                          replace p361 := eq_true p361
                          replace q361 := eq_true q361
                          go_wp2_with (first | ((with_reducible refine gate_builtin (b := .append) (xs := #[.tmp 43, .tmp 48]) rfl ?_); at_builtin; refine Kd.Q_append Kd.string (w0 := w) w.heap.size rfl (.tmp 43) (.tmp 48) 31 9 (.string ⟨#[]⟩) 16 rfl Tryd.underlying31 info9 rfl (by decide) (by omega) u8 x8_2 (rdOf ByteArray.empty t356 x9_2) [.string (rdOf ByteArray.empty t356 x9_2)] (fun k_ => some k_ ≠ (.slice (some ad359) t356.length co20 : Value).ownBlock) (fun _ => False) rfl rfl ?aP (fun _ hk => hk.elim) ?aF ?aO ?aB ?aS ?aL ?_; (case aP => exact rfl); (case aB => exact (by repeat (first | (with_reducible first | exact HB.out | apply below_alloc | apply pw_below_drewN | apply below_drew1) | exact HB.out))); (case aF => exact (fun k_ hk => Kd.fresh' (Kd.R_lt (by (with_reducible repeat (first | apply Kd.R_alloc | apply Kd.R_drewN | apply Kd.R_drew)); exact HO_6.out)) k_ hk)); (case aO => exact (by (with_reducible repeat (first | apply Kd.Q_alloc | apply Kd.Q_drewN | apply Kd.Q_drew)); exact HO_8.out)); (case aS => exact (below_size (by repeat (first | (with_reducible first | exact HB.out | apply below_alloc | apply pw_below_drewN | apply below_drew1) | exact HB.out)))); (case aL => have := LMc19.out; omega); intro v363 w21 ho hb hg hat; rw [← Ny362.out] at ho; have n0_ := Aside0.mk (Kd.R_after (ok := (fun _ => True)) (by (with_reducible repeat (first | apply Kd.R_alloc | apply Kd.R_drewN | apply Kd.R_drew)); exact Kd.R_mono HO_6.out (fun _ hk => ⟨trivial, hk⟩)) hg hat); have n1_ := Aside0.mk (hb); have n2_ := Aside0.mk (ho); clear HO_6; clear HB; clear HO_8; have HO_6 := n0_; have HB := n1_; have HO364 := n2_; clear n0_ n1_ n2_; clear ho hb hg hat))
                          go_roundg k2
                          case measure => have := HJ3.out; have := HK2.out; omega
                          case rel => exact ⟨(((x7_2 ++ (⟨#[60]⟩ : ByteArray)) ++ (rdOf ByteArray.empty t356 x9_2)) ++ (⟨#[62, 32]⟩ : ByteArray)), (y362), (wrap64 (x9_2 + 1)), (by first | rfl | (simp; done) | (simp [*]; done)), (by first | rfl | (simp; done) | (simp [*]; done)), H', ⟨by have := HJ3.out; have := HK2.out; omega⟩, ⟨by (with_reducible repeat (first | apply Kd.R_alloc | apply Kd.R_drewN | apply Kd.R_drew)); exact Kd.R_mono HO_6.out (fun _ hk => hk.2)⟩, ⟨by (with_reducible repeat (first | apply Kd.Q_alloc | apply Kd.Q_drewN | apply Kd.Q_drew)); exact HO364.out⟩, ⟨by repeat (first | (with_reducible first | exact HB.out | apply below_alloc | apply pw_below_drewN | apply below_drew1) | exact HB.out)⟩⟩
                        · rw [if_neg c19] at H
                          exact absurd H (by simp)
                    · rw [if_neg c16] at H
                      exact absurd H (by simp)
                  · rw [if_neg c15] at H
                    exact absurd H (by simp)
                · rw [if_neg c14] at H
                  exact absurd H (by simp)
              · rw [if_neg c13] at H
                exact absurd H (by simp)
            · rw [if_neg c12] at H
              have c12b0 : decide (x9_2 < (t356.length : Int)) = false := decide_eq_false c12
              clear c12
              by_cases c22 : (x8_2.length : Int) > 99
              · rw [if_pos c22] at H
                have c22b0 : decide (99 < (x8_2.length : Int)) = true := decide_eq_true c22
                have c22b1 : decide (99 < x8_2.length) = true := decide_eq_true (by omega)
                clear c22
                obtain ⟨ji23, hji23⟩ : ∃ j_ : Int, (wrap64 ((wrap64 ((x8_2.length : Int) - 100)) + 1)) = j_ := ⟨_, rfl⟩
                replace H : (if 0 ≤ (ji23) then (if (ji23) ≤ (x8_2.length : Int) then ((some (x8_2.drop ((ji23) : Int).toNat : List ByteArray)).bind fun y365 => (if y365.length < 8796093022208 then (if 1 + a1.size ≤ 9223372036854775807 then (if 1 + a1.size + 1 ≤ 9223372036854775807 then (if x7_2.size + 1 ≤ 9223372036854775807 then (if x7_2.size + 1 + a1.size ≤ 9223372036854775807 then (if x7_2.size + 1 + a1.size + 1 ≤ 9223372036854775807 then (if t353 = true then ((msgid_Refs.f k2 (([(⟨(⟨#[73, 110, 45, 82, 101, 112, 108, 121, 45, 84, 111]⟩ : ByteArray), ((⟨#[60]⟩ : ByteArray) ++ a1) ++ (⟨#[62]⟩ : ByteArray)⟩ : S37), (⟨(⟨#[82, 101, 102, 101, 114, 101, 110, 99, 101, 115]⟩ : ByteArray), ((x7_2 ++ (⟨#[60]⟩ : ByteArray)) ++ a1) ++ (⟨#[62]⟩ : ByteArray)⟩ : S37)] : List (S37)))).bind fun t374 => ((missiveref09_SameTexts.f k2 t374 (y365 ++ [a1])).bind fun t377 => (some t377))) else (some false)) else (none)) else (none)) else (none)) else (none)) else (none)) else (none))) else (none)) else (none)) = some r := by first | (rw [hji23] at H; exact H) | (simp only [hji23] at H ⊢; exact H)
                have hji23w : (IntKind.i64.wrap ((wrap64 ((x8_2.length : Int) - 100)) + 1)) = ji23 := (i64_w _).trans hji23
                by_cases c24 : 0 ≤ (ji23)
                · rw [if_pos c24] at H
                  have c24b0 := eq_true c24
                  have c24b1 : decide (0 ≤ (ji23)) = true := decide_eq_true c24
                  clear c24
                  by_cases c25 : (ji23) ≤ (x8_2.length : Int)
                  · rw [if_pos c25] at H
                    have c25b0 := eq_true c25
                    have c25b1 : decide ((ji23) ≤ (x8_2.length : Int)) = true := decide_eq_true c25
                    clear c25
                    obtain ⟨y365, hy365⟩ : ∃ y_ : List ByteArray, y_ = (x8_2.drop ((ji23) : Int).toNat) := ⟨_, rfl⟩
                    replace H : (if y365.length < 8796093022208 then (if 1 + a1.size ≤ 9223372036854775807 then (if 1 + a1.size + 1 ≤ 9223372036854775807 then (if x7_2.size + 1 ≤ 9223372036854775807 then (if x7_2.size + 1 + a1.size ≤ 9223372036854775807 then (if x7_2.size + 1 + a1.size + 1 ≤ 9223372036854775807 then (if t353 = true then ((msgid_Refs.f k2 (([(⟨(⟨#[73, 110, 45, 82, 101, 112, 108, 121, 45, 84, 111]⟩ : ByteArray), ((⟨#[60]⟩ : ByteArray) ++ a1) ++ (⟨#[62]⟩ : ByteArray)⟩ : S37), (⟨(⟨#[82, 101, 102, 101, 114, 101, 110, 99, 101, 115]⟩ : ByteArray), ((x7_2 ++ (⟨#[60]⟩ : ByteArray)) ++ a1) ++ (⟨#[62]⟩ : ByteArray)⟩ : S37)] : List (S37)))).bind fun t374 => ((missiveref09_SameTexts.f k2 t374 (y365 ++ [a1])).bind fun t377 => (some t377))) else (some false)) else (none)) else (none)) else (none)) else (none)) else (none)) else (none)) = some r := by first | (rw [hy365]; with_reducible exact H) | (have H2_ := (Option.bind_some _ _).symm.trans H; rw [hy365]; with_reducible exact H2_) | (have H2_ := (Option.bind_some _ _).symm.trans H; with_reducible exact H2_) | with_reducible exact H | (rw [hy365]; exact H) | exact H
                    have Ny365 := Aside0.mk hy365
                    clear hy365
                    by_cases c26 : y365.length < 8796093022208
                    · rw [if_pos c26] at H
                      have LMc26 := Aside0.mk c26
                      clear c26
                      obtain ⟨y368, hy368⟩ : ∃ y_ : List ByteArray, y_ = (y365 ++ [a1]) := ⟨_, rfl⟩
                      replace H : (if 1 + a1.size ≤ 9223372036854775807 then (if 1 + a1.size + 1 ≤ 9223372036854775807 then (if x7_2.size + 1 ≤ 9223372036854775807 then (if x7_2.size + 1 + a1.size ≤ 9223372036854775807 then (if x7_2.size + 1 + a1.size + 1 ≤ 9223372036854775807 then (if t353 = true then ((msgid_Refs.f k2 (([(⟨(⟨#[73, 110, 45, 82, 101, 112, 108, 121, 45, 84, 111]⟩ : ByteArray), ((⟨#[60]⟩ : ByteArray) ++ a1) ++ (⟨#[62]⟩ : ByteArray)⟩ : S37), (⟨(⟨#[82, 101, 102, 101, 114, 101, 110, 99, 101, 115]⟩ : ByteArray), ((x7_2 ++ (⟨#[60]⟩ : ByteArray)) ++ a1) ++ (⟨#[62]⟩ : ByteArray)⟩ : S37)] : List (S37)))).bind fun t374 => ((missiveref09_SameTexts.f k2 t374 y368).bind fun t377 => (some t377))) else (some false)) else (none)) else (none)) else (none)) else (none)) else (none)) = some r := by first | (rw [hy368]; with_reducible exact H) | (have H2_ := (Option.bind_some _ _).symm.trans H; rw [hy368]; with_reducible exact H2_) | (have H2_ := (Option.bind_some _ _).symm.trans H; with_reducible exact H2_) | with_reducible exact H | (rw [hy368]; exact H) | exact H
                      have Ny368 := Aside0.mk hy368
                      clear hy368
                      by_cases c27 : 1 + a1.size ≤ 9223372036854775807
                      · rw [if_pos c27] at H
                        have c27b0 := eq_true c27
                        have c27b1 : decide (1 + a1.size ≤ 9223372036854775807) = true := decide_eq_true c27
                        try have c27b2 : (9223372036854775807 < 1 + a1.size) = False := eq_false (Nat.not_lt.2 c27)
                        by_cases c28 : 1 + a1.size + 1 ≤ 9223372036854775807
                        · rw [if_pos c28] at H
                          have c28b0 := eq_true c28
                          have c28b1 : decide (1 + a1.size + 1 ≤ 9223372036854775807) = true := decide_eq_true c28
                          try have c28b2 : (9223372036854775807 < 1 + a1.size + 1) = False := eq_false (Nat.not_lt.2 c28)
                          by_cases c29 : x7_2.size + 1 ≤ 9223372036854775807
                          · rw [if_pos c29] at H
                            have c29b0 := eq_true c29
                            have c29b1 : decide (x7_2.size + 1 ≤ 9223372036854775807) = true := decide_eq_true c29
                            try have c29b2 : (9223372036854775807 < x7_2.size + 1) = False := eq_false (Nat.not_lt.2 c29)
                            by_cases c30 : x7_2.size + 1 + a1.size ≤ 9223372036854775807
                            · rw [if_pos c30] at H
                              have c30b0 := eq_true c30
                              have c30b1 : decide (x7_2.size + 1 + a1.size ≤ 9223372036854775807) = true := decide_eq_true c30
                              try have c30b2 : (9223372036854775807 < x7_2.size + 1 + a1.size) = False := eq_false (Nat.not_lt.2 c30)
                              by_cases c31 : x7_2.size + 1 + a1.size + 1 ≤ 9223372036854775807
                              · rw [if_pos c31] at H
                                have c31b0 := eq_true c31
                                have c31b1 : decide (x7_2.size + 1 + a1.size + 1 ≤ 9223372036854775807) = true := decide_eq_true c31
                                try have c31b2 : (9223372036854775807 < x7_2.size + 1 + a1.size + 1) = False := eq_false (Nat.not_lt.2 c31)
                                obtain ⟨y371, hy371⟩ : ∃ y_ : List (S37), y_ = (([(⟨(⟨#[73, 110, 45, 82, 101, 112, 108, 121, 45, 84, 111]⟩ : ByteArray), ((⟨#[60]⟩ : ByteArray) ++ a1) ++ (⟨#[62]⟩ : ByteArray)⟩ : S37), (⟨(⟨#[82, 101, 102, 101, 114, 101, 110, 99, 101, 115]⟩ : ByteArray), ((x7_2 ++ (⟨#[60]⟩ : ByteArray)) ++ a1) ++ (⟨#[62]⟩ : ByteArray)⟩ : S37)] : List (S37))) := ⟨_, rfl⟩
                                replace H : (if t353 = true then ((msgid_Refs.f k2 y371).bind fun t374 => ((missiveref09_SameTexts.f k2 t374 y368).bind fun t377 => (some t377))) else (some false)) = some r := by first | (rw [hy371]; with_reducible exact H) | (have H2_ := (Option.bind_some _ _).symm.trans H; rw [hy371]; with_reducible exact H2_) | (have H2_ := (Option.bind_some _ _).symm.trans H; with_reducible exact H2_) | with_reducible exact H | (rw [hy371]; exact H) | exact H
                                have Ny371 := Aside0.mk hy371
                                clear hy371
                                by_cases c32 : t353 = true
                                · subst c32
                                  have H1 : ((msgid_Refs.f k2 y371).bind fun t374 => ((missiveref09_SameTexts.f k2 t374 y368).bind fun t377 => (some t377))) = some r := by rw [if_pos rfl] at H; exact H
                                  clear H
                                  have H := H1
                                  clear H1
                                  replace H := Option.bind_eq_some_iff.mp H
                                  obtain ⟨t374, A330, H⟩ := H
                                  replace H : ((missiveref09_SameTexts.f k2 t374 y368).bind fun t377 => (some t377)) = some r := H
                                  have A33 := Aside0.mk A330
                                  clear A330
                                  replace H := Option.bind_eq_some_iff.mp H
                                  obtain ⟨t377, A340, H⟩ := H
                                  replace H : (some t377) = some r := H
                                  have A34 := Aside0.mk A340
                                  clear A340
                                  obtain rfl := Option.some.inj H
                                  obtain ⟨Ao35, co35, eo35⟩ := Kd.R_slice HO_6.out
                                  subst eo35
                                  obtain ⟨Ao36, co36, eo36, _⟩ := Kd.Q_slice HO_8.out
                                  subst eo36
                                  have q37 : ((ji23) : Int) ≤ ((x8_2.length : Int) : Int) := of_decide_eq_true (by first | (with_reducible assumption) | assumption)
                                  obtain ⟨i037, hi037, _, hsz37, _⟩ := info_parts info9
                                  have hcut37 := cut_from (P := Tryd.prog) 31 9 .i64 Tryd.underlying31 hi037 1 hsz37 Ao36 x8_2.length co36 (ji23) (of_decide_eq_true (by first | (with_reducible assumption) | assumption)) q37
                                  have hr37 := Kd.Q_drop (k := ((ji23) : Int).toNat) HO_8.out (by omega)
                                  obtain ⟨A37, hA37⟩ : ∃ A1, A1 = (if co36 = ((ji23) : Int).toNat then Ao36 else (Ao36 : Option Addr).map (·.add (((ji23) : Int).toNat * 1))) := ⟨_, rfl⟩
                                  obtain ⟨c37, hc37⟩ : ∃ c1, c1 = co36 - ((ji23) : Int).toNat := ⟨_, rfl⟩
                                  have hy37 : y365.length = x8_2.length - ((ji23) : Int).toNat := (by rw [Ny365.out, List.length_drop])
                                  rw [← Ny365.out] at hr37
                                  rw [← hy37, ← hA37, ← hc37] at hcut37
                                  replace hr37 : Kd.Q Kd.string 9 wr w.heap.size (fun k_ => some k_ ≠ (.slice Ao35 t356.length co35 : Value).ownBlock) (.slice A37 y365.length c37) y365 := (by rw [hA37, hc37, hy37]; exact hr37)
                                  have HE37 : Aside0 ((Value.slice A37 y365.length c37).ownBlock = (.slice Ao36 x8_2.length co36 : Value).ownBlock) := ⟨by rw [hA37]; split <;> (cases (Ao36 : Option Addr) <;> first | rfl | (simp only [Value.ownBlock, Option.map_some]; unfold Addr.add; split <;> rfl))⟩
                                  clear hy37 hi037 hsz37 HO_8 hA37 hc37
                                  have HO367 := Aside0.mk hr37
                                  clear hr37
                                  replace q37 := eq_true q37
                                  have n_ := Aside0.mk (Kd.R_mono (ok' := fun k_ => some k_ ≠ (.slice A37 y365.length c37 : Value).ownBlock) HO_6.out (fun k_ hk => (by rw [HE37.out]; exact hk)))
                                  clear HO_6
                                  have HO_6 := n_
                                  clear n_
                                  go_wp2_with (first | ((with_reducible refine gate_builtin (b := .append) (xs := #[.tmp 59, .tmp 61]) rfl ?_); at_builtin; refine Kd.Q_append Kd.string (w0 := w) w.heap.size rfl (.tmp 59) (.tmp 61) 31 9 (.string ⟨#[]⟩) 16 rfl Tryd.underlying31 info9 rfl (by decide) (by omega) (.slice A37 y365.length c37) y365 a1 [.string a1] (fun k_ => some k_ ≠ (.slice Ao35 t356.length co35 : Value).ownBlock) (fun _ => False) rfl rfl ?aP (fun _ hk => hk.elim) ?aF ?aO ?aB ?aS ?aL ?_; (case aP => exact rfl); (case aB => exact (by repeat (first | (with_reducible first | exact HB.out | apply below_alloc | apply pw_below_drewN | apply below_drew1) | exact HB.out))); (case aF => exact (fun k_ hk => Kd.fresh' (Kd.R_lt (by (with_reducible repeat (first | apply Kd.R_alloc | apply Kd.R_drewN | apply Kd.R_drew)); exact HO_6.out)) k_ hk)); (case aO => exact (by (with_reducible repeat (first | apply Kd.Q_alloc | apply Kd.Q_drewN | apply Kd.Q_drew)); exact HO367.out)); (case aS => exact (below_size (by repeat (first | (with_reducible first | exact HB.out | apply below_alloc | apply pw_below_drewN | apply below_drew1) | exact HB.out)))); (case aL => have := LMc26.out; omega); intro v369 w38 ho hb hg hat; rw [← Ny368.out] at ho; have n0_ := Aside0.mk (Kd.R_after (ok := (fun _ => True)) (by (with_reducible repeat (first | apply Kd.R_alloc | apply Kd.R_drewN | apply Kd.R_drew)); exact Kd.R_mono HO_6.out (fun _ hk => ⟨trivial, hk⟩)) hg hat); have n1_ := Aside0.mk (hb); have n2_ := Aside0.mk (ho); clear HO_6; clear HB; clear HO367; have HO_6 := n0_; have HB := n1_; have HO370 := n2_; clear n0_ n1_ n2_; clear ho hb hg hat) | ((with_reducible refine gate_dst (N := 73) rfl ?_); refine Kd.R_lit k37 _ 37 ?hg (N := 73) ?hd (xs := ([(⟨(⟨#[73, 110, 45, 82, 101, 112, 108, 121, 45, 84, 111]⟩ : ByteArray), ((⟨#[60]⟩ : ByteArray) ++ a1) ++ (⟨#[62]⟩ : ByteArray)⟩ : S37), (⟨(⟨#[82, 101, 102, 101, 114, 101, 110, 99, 101, 115]⟩ : ByteArray), ((x7_2 ++ (⟨#[60]⟩ : ByteArray)) ++ a1) ++ (⟨#[62]⟩ : ByteArray)⟩ : S37)] : List (S37))) (inner := [.string (⟨#[73, 110, 45, 82, 101, 112, 108, 121, 45, 84, 111]⟩ : ByteArray), .string (((⟨#[60]⟩ : ByteArray) ++ a1) ++ (⟨#[62]⟩ : ByteArray)), .string (⟨#[82, 101, 102, 101, 114, 101, 110, 99, 101, 115]⟩ : ByteArray), .string (((x7_2 ++ (⟨#[60]⟩ : ByteArray)) ++ a1) ++ (⟨#[62]⟩ : ByteArray))]) (ok := fun _ => True) (okp := fun _ => True) ?hr ?hp (fun _ hk => hk) trivial (Below.refl _ _) (Nat.le_refl _) (by simp) ?_; (case hd => rfl); (case hg => rfl); (case hr => first | (go_simp; done) | (go_simp; rfl)); (case hp => exact (Reps.c2 (show Kd.M k37 _ _ _ (⟨(⟨#[73, 110, 45, 82, 101, 112, 108, 121, 45, 84, 111]⟩ : ByteArray), ((⟨#[60]⟩ : ByteArray) ++ a1) ++ (⟨#[62]⟩ : ByteArray)⟩ : S37) [.string (⟨#[73, 110, 45, 82, 101, 112, 108, 121, 45, 84, 111]⟩ : ByteArray), .string (((⟨#[60]⟩ : ByteArray) ++ a1) ++ (⟨#[62]⟩ : ByteArray))] from (k37_mkM _ _ _ (⟨(⟨#[73, 110, 45, 82, 101, 112, 108, 121, 45, 84, 111]⟩ : ByteArray), ((⟨#[60]⟩ : ByteArray) ++ a1) ++ (⟨#[62]⟩ : ByteArray)⟩ : S37) )) (Reps.c2 (show Kd.M k37 _ _ _ (⟨(⟨#[82, 101, 102, 101, 114, 101, 110, 99, 101, 115]⟩ : ByteArray), ((x7_2 ++ (⟨#[60]⟩ : ByteArray)) ++ a1) ++ (⟨#[62]⟩ : ByteArray)⟩ : S37) [.string (⟨#[82, 101, 102, 101, 114, 101, 110, 99, 101, 115]⟩ : ByteArray), .string (((x7_2 ++ (⟨#[60]⟩ : ByteArray)) ++ a1) ++ (⟨#[62]⟩ : ByteArray))] from (k37_mkM _ _ _ (⟨(⟨#[82, 101, 102, 101, 114, 101, 110, 99, 101, 115]⟩ : ByteArray), ((x7_2 ++ (⟨#[60]⟩ : ByteArray)) ++ a1) ++ (⟨#[62]⟩ : ByteArray)⟩ : S37) )) (Reps.none _ _)))); intro v372 w39 ho40 hb hg_ hnew_; clear hg_ hnew_; (first | rw [← Ny371.out] at ho40 | (simp only [Int.reduceToNat] at ho40; rw [← Ny371.out] at ho40)); have n0_ := Aside0.mk (Kd.R_below (by (with_reducible repeat (first | apply Kd.R_alloc | apply Kd.R_drewN | apply Kd.R_drew)); exact HO_6.out) hb); have n1_ := Aside0.mk (Kd.Q_below (by (with_reducible repeat (first | apply Kd.Q_alloc | apply Kd.Q_drewN | apply Kd.Q_drew)); exact HO370.out) hb); have n2_ := Aside0.mk (Kd.R_lower ho40 (below_size (by repeat (first | (with_reducible first | exact HB.out | apply below_alloc | apply pw_below_drewN | apply below_drew1) | exact HB.out)))); have n3_ := Aside0.mk (below_step (by repeat (first | (with_reducible first | exact HB.out | apply below_alloc | apply pw_below_drewN | apply below_drew1) | exact HB.out)) hb); clear HO_6; clear HO370; clear HB; have HO_6 := n0_; have HO370 := n1_; have HO373 := n2_; have HB := n3_; clear n0_ n1_ n2_ n3_; clear hb ho40; obtain ⟨Ao41, co41, eo41⟩ := Kd.R_slice HO373.out; subst eo41) | (go_at_call 20; (with_reducible refine (msgid_Refs.calls k2 _ _ y371 t374 _ ?side1 ?side2 A33.out).mono ?_); (case side1 => repeat (first | exact (Kd.R_reads' HO373.out).2.2 | (with_reducible refine Kd.C_alloc ?_ _) | (with_reducible refine Kd.C_drewN ?_ _) | (with_reducible refine Kd.C_drew ?_))); (case side2 => exact (Kd.R_reads' HO373.out).2.1); rintro e w42 ⟨v375, rfl, ho0, hb⟩; have n0_ := Aside0.mk (Kd.R_elder' (by (with_reducible repeat (first | apply Kd.R_alloc | apply Kd.R_drewN | apply Kd.R_drew)); exact HO_6.out) (Kd.R_base ho0) hb); have n1_ := Aside0.mk (Kd.Q_elder' (by (with_reducible repeat (first | apply Kd.Q_alloc | apply Kd.Q_drewN | apply Kd.Q_drew)); exact HO370.out) (Kd.R_base ho0) hb); have n2_ := Aside0.mk (Kd.R_below (by (with_reducible repeat (first | apply Kd.R_alloc | apply Kd.R_drewN | apply Kd.R_drew)); exact HO373.out) hb); have n3_ := Aside0.mk (Kd.R_lower (Kd.R_new' (Kd.R_new' ho0 (Kd.R_lt (by (with_reducible repeat (first | apply Kd.R_alloc | apply Kd.R_drewN | apply Kd.R_drew)); exact HO_6.out))) (Kd.Q_lt (by (with_reducible repeat (first | apply Kd.Q_alloc | apply Kd.Q_drewN | apply Kd.Q_drew)); exact HO370.out))) (below_size (by repeat (first | (with_reducible first | exact HB.out | apply below_alloc | apply pw_below_drewN | apply below_drew1) | exact HB.out)))); have n4_ := Aside0.mk (below_step (by repeat (first | (with_reducible first | exact HB.out | apply below_alloc | apply pw_below_drewN | apply below_drew1) | exact HB.out)) hb); clear HO_6; clear HO370; clear HO373; clear HB; have HO_6 := n0_; have HO370 := n1_; have HO373 := n2_; have HO376 := n3_; have HB := n4_; clear n0_ n1_ n2_ n3_ n4_; (try clear hb); (try clear hb2); (try clear hk); (try clear hi); (try clear ho0); obtain ⟨Ao43, co43, eo43⟩ := Kd.R_slice HO376.out; subst eo43; obtain ⟨Ao44, co44, eo44, _⟩ := Kd.Q_slice HO370.out; subst eo44) | (go_at_call 17; (with_reducible refine (missiveref09_SameTexts.calls k2 _ _ t374 _ _ y368 t377 _ ?side1 ?side2 ?side3 ?side4 A34.out).mono ?_); (case side1 => repeat (first | exact (Kd.R_reads' HO376.out).2.2 | (with_reducible refine Kd.C_alloc ?_ _) | (with_reducible refine Kd.C_drewN ?_ _) | (with_reducible refine Kd.C_drew ?_))); (case side2 => exact (Kd.R_reads' HO376.out).2.1); (case side3 => repeat (first | exact (Kd.Q_reads' HO370.out).2.2 | (with_reducible refine Kd.C_alloc ?_ _) | (with_reducible refine Kd.C_drewN ?_ _) | (with_reducible refine Kd.C_drew ?_))); (case side4 => exact (Kd.Q_reads' HO370.out).2.1); rintro e w' ⟨rfl, ⟨nd, rfl⟩⟩))
                                  go_ret
                                  exact ⟨by first | rfl | (simp [errW_none, errW_some] <;> rfl) | (simp only [← hji23]; first | rfl | (simp [errW_none, errW_some] <;> rfl)) | (simp [*, errW_none, errW_some] <;> rfl), by repeat (first | (with_reducible first | exact HB.out | apply below_alloc | apply pw_below_drewN | apply below_drew1) | exact HB.out)⟩
                                · replace c32 := Bool.eq_false_iff.mpr c32
                                  subst c32
                                  have H1 : (some false) = some r := by rw [if_neg (show ¬ (false = true) by decide)] at H; exact H
                                  clear H
                                  have H := H1
                                  clear H1
                                  obtain rfl := Option.some.inj H
                                  obtain ⟨Ao45, co45, eo45⟩ := Kd.R_slice HO_6.out
                                  subst eo45
                                  obtain ⟨Ao46, co46, eo46, _⟩ := Kd.Q_slice HO_8.out
                                  subst eo46
                                  have q47 : ((ji23) : Int) ≤ ((x8_2.length : Int) : Int) := of_decide_eq_true (by first | (with_reducible assumption) | assumption)
                                  obtain ⟨i047, hi047, _, hsz47, _⟩ := info_parts info9
                                  have hcut47 := cut_from (P := Tryd.prog) 31 9 .i64 Tryd.underlying31 hi047 1 hsz47 Ao46 x8_2.length co46 (ji23) (of_decide_eq_true (by first | (with_reducible assumption) | assumption)) q47
                                  have hr47 := Kd.Q_drop (k := ((ji23) : Int).toNat) HO_8.out (by omega)
                                  obtain ⟨A47, hA47⟩ : ∃ A1, A1 = (if co46 = ((ji23) : Int).toNat then Ao46 else (Ao46 : Option Addr).map (·.add (((ji23) : Int).toNat * 1))) := ⟨_, rfl⟩
                                  obtain ⟨c47, hc47⟩ : ∃ c1, c1 = co46 - ((ji23) : Int).toNat := ⟨_, rfl⟩
                                  have hy47 : y365.length = x8_2.length - ((ji23) : Int).toNat := (by rw [Ny365.out, List.length_drop])
                                  rw [← Ny365.out] at hr47
                                  rw [← hy47, ← hA47, ← hc47] at hcut47
                                  replace hr47 : Kd.Q Kd.string 9 wr w.heap.size (fun k_ => some k_ ≠ (.slice Ao45 t356.length co45 : Value).ownBlock) (.slice A47 y365.length c47) y365 := (by rw [hA47, hc47, hy47]; exact hr47)
                                  have HE47 : Aside0 ((Value.slice A47 y365.length c47).ownBlock = (.slice Ao46 x8_2.length co46 : Value).ownBlock) := ⟨by rw [hA47]; split <;> (cases (Ao46 : Option Addr) <;> first | rfl | (simp only [Value.ownBlock, Option.map_some]; unfold Addr.add; split <;> rfl))⟩
                                  clear hy47 hi047 hsz47 HO_8 hA47 hc47
                                  have HO367 := Aside0.mk hr47
                                  clear hr47
                                  replace q47 := eq_true q47
                                  have n_ := Aside0.mk (Kd.R_mono (ok' := fun k_ => some k_ ≠ (.slice A47 y365.length c47 : Value).ownBlock) HO_6.out (fun k_ hk => (by rw [HE47.out]; exact hk)))
                                  clear HO_6
                                  have HO_6 := n_
                                  clear n_
                                  go_wp2_with (first | ((with_reducible refine gate_builtin (b := .append) (xs := #[.tmp 59, .tmp 61]) rfl ?_); at_builtin; refine Kd.Q_append Kd.string (w0 := w) w.heap.size rfl (.tmp 59) (.tmp 61) 31 9 (.string ⟨#[]⟩) 16 rfl Tryd.underlying31 info9 rfl (by decide) (by omega) (.slice A47 y365.length c47) y365 a1 [.string a1] (fun k_ => some k_ ≠ (.slice Ao45 t356.length co45 : Value).ownBlock) (fun _ => False) rfl rfl ?aP (fun _ hk => hk.elim) ?aF ?aO ?aB ?aS ?aL ?_; (case aP => exact rfl); (case aB => exact (by repeat (first | (with_reducible first | exact HB.out | apply below_alloc | apply pw_below_drewN | apply below_drew1) | exact HB.out))); (case aF => exact (fun k_ hk => Kd.fresh' (Kd.R_lt (by (with_reducible repeat (first | apply Kd.R_alloc | apply Kd.R_drewN | apply Kd.R_drew)); exact HO_6.out)) k_ hk)); (case aO => exact (by (with_reducible repeat (first | apply Kd.Q_alloc | apply Kd.Q_drewN | apply Kd.Q_drew)); exact HO367.out)); (case aS => exact (below_size (by repeat (first | (with_reducible first | exact HB.out | apply below_alloc | apply pw_below_drewN | apply below_drew1) | exact HB.out)))); (case aL => have := LMc26.out; omega); intro v369 w48 ho hb hg hat; rw [← Ny368.out] at ho; have n0_ := Aside0.mk (Kd.R_after (ok := (fun _ => True)) (by (with_reducible repeat (first | apply Kd.R_alloc | apply Kd.R_drewN | apply Kd.R_drew)); exact Kd.R_mono HO_6.out (fun _ hk => ⟨trivial, hk⟩)) hg hat); have n1_ := Aside0.mk (hb); have n2_ := Aside0.mk (ho); clear HO_6; clear HB; clear HO367; have HO_6 := n0_; have HB := n1_; have HO370 := n2_; clear n0_ n1_ n2_; clear ho hb hg hat) | ((with_reducible refine gate_dst (N := 73) rfl ?_); refine Kd.R_lit k37 _ 37 ?hg (N := 73) ?hd (xs := ([(⟨(⟨#[73, 110, 45, 82, 101, 112, 108, 121, 45, 84, 111]⟩ : ByteArray), ((⟨#[60]⟩ : ByteArray) ++ a1) ++ (⟨#[62]⟩ : ByteArray)⟩ : S37), (⟨(⟨#[82, 101, 102, 101, 114, 101, 110, 99, 101, 115]⟩ : ByteArray), ((x7_2 ++ (⟨#[60]⟩ : ByteArray)) ++ a1) ++ (⟨#[62]⟩ : ByteArray)⟩ : S37)] : List (S37))) (inner := [.string (⟨#[73, 110, 45, 82, 101, 112, 108, 121, 45, 84, 111]⟩ : ByteArray), .string (((⟨#[60]⟩ : ByteArray) ++ a1) ++ (⟨#[62]⟩ : ByteArray)), .string (⟨#[82, 101, 102, 101, 114, 101, 110, 99, 101, 115]⟩ : ByteArray), .string (((x7_2 ++ (⟨#[60]⟩ : ByteArray)) ++ a1) ++ (⟨#[62]⟩ : ByteArray))]) (ok := fun _ => True) (okp := fun _ => True) ?hr ?hp (fun _ hk => hk) trivial (Below.refl _ _) (Nat.le_refl _) (by simp) ?_; (case hd => rfl); (case hg => rfl); (case hr => first | (go_simp; done) | (go_simp; rfl)); (case hp => exact (Reps.c2 (show Kd.M k37 _ _ _ (⟨(⟨#[73, 110, 45, 82, 101, 112, 108, 121, 45, 84, 111]⟩ : ByteArray), ((⟨#[60]⟩ : ByteArray) ++ a1) ++ (⟨#[62]⟩ : ByteArray)⟩ : S37) [.string (⟨#[73, 110, 45, 82, 101, 112, 108, 121, 45, 84, 111]⟩ : ByteArray), .string (((⟨#[60]⟩ : ByteArray) ++ a1) ++ (⟨#[62]⟩ : ByteArray))] from (k37_mkM _ _ _ (⟨(⟨#[73, 110, 45, 82, 101, 112, 108, 121, 45, 84, 111]⟩ : ByteArray), ((⟨#[60]⟩ : ByteArray) ++ a1) ++ (⟨#[62]⟩ : ByteArray)⟩ : S37) )) (Reps.c2 (show Kd.M k37 _ _ _ (⟨(⟨#[82, 101, 102, 101, 114, 101, 110, 99, 101, 115]⟩ : ByteArray), ((x7_2 ++ (⟨#[60]⟩ : ByteArray)) ++ a1) ++ (⟨#[62]⟩ : ByteArray)⟩ : S37) [.string (⟨#[82, 101, 102, 101, 114, 101, 110, 99, 101, 115]⟩ : ByteArray), .string (((x7_2 ++ (⟨#[60]⟩ : ByteArray)) ++ a1) ++ (⟨#[62]⟩ : ByteArray))] from (k37_mkM _ _ _ (⟨(⟨#[82, 101, 102, 101, 114, 101, 110, 99, 101, 115]⟩ : ByteArray), ((x7_2 ++ (⟨#[60]⟩ : ByteArray)) ++ a1) ++ (⟨#[62]⟩ : ByteArray)⟩ : S37) )) (Reps.none _ _)))); intro v372 w49 ho50 hb hg_ hnew_; clear hg_ hnew_; (first | rw [← Ny371.out] at ho50 | (simp only [Int.reduceToNat] at ho50; rw [← Ny371.out] at ho50)); have n0_ := Aside0.mk (Kd.R_below (by (with_reducible repeat (first | apply Kd.R_alloc | apply Kd.R_drewN | apply Kd.R_drew)); exact HO_6.out) hb); have n1_ := Aside0.mk (Kd.Q_below (by (with_reducible repeat (first | apply Kd.Q_alloc | apply Kd.Q_drewN | apply Kd.Q_drew)); exact HO370.out) hb); have n2_ := Aside0.mk (Kd.R_lower ho50 (below_size (by repeat (first | (with_reducible first | exact HB.out | apply below_alloc | apply pw_below_drewN | apply below_drew1) | exact HB.out)))); have n3_ := Aside0.mk (below_step (by repeat (first | (with_reducible first | exact HB.out | apply below_alloc | apply pw_below_drewN | apply below_drew1) | exact HB.out)) hb); clear HO_6; clear HO370; clear HB; have HO_6 := n0_; have HO370 := n1_; have HO373 := n2_; have HB := n3_; clear n0_ n1_ n2_ n3_; clear hb ho50))
                                  go_ret
                                  exact ⟨by first | rfl | (simp [errW_none, errW_some] <;> rfl) | (simp only [← hji23]; first | rfl | (simp [errW_none, errW_some] <;> rfl)) | (simp [*, errW_none, errW_some] <;> rfl), by repeat (first | (with_reducible first | exact HB.out | apply below_alloc | apply pw_below_drewN | apply below_drew1) | exact HB.out)⟩
                              · rw [if_neg c31] at H
                                exact absurd H (by simp)
                            · rw [if_neg c30] at H
                              exact absurd H (by simp)
                          · rw [if_neg c29] at H
                            exact absurd H (by simp)
                        · rw [if_neg c28] at H
                          exact absurd H (by simp)
                      · rw [if_neg c27] at H
                        exact absurd H (by simp)
                    · rw [if_neg c26] at H
                      exact absurd H (by simp)
                  · rw [if_neg c25] at H
                    exact absurd H (by simp)
                · rw [if_neg c24] at H
                  exact absurd H (by simp)
              · rw [if_neg c22] at H
                have c22b0 : decide (99 < (x8_2.length : Int)) = false := decide_eq_false c22
                have c22b1 : decide (99 < x8_2.length) = false := decide_eq_false (by omega)
                clear c22
                by_cases c51 : x8_2.length < 8796093022208
                · rw [if_pos c51] at H
                  have LMc51 := Aside0.mk c51
                  clear c51
                  obtain ⟨y378, hy378⟩ : ∃ y_ : List ByteArray, y_ = (x8_2 ++ [a1]) := ⟨_, rfl⟩
                  replace H : (if 1 + a1.size ≤ 9223372036854775807 then (if 1 + a1.size + 1 ≤ 9223372036854775807 then (if x7_2.size + 1 ≤ 9223372036854775807 then (if x7_2.size + 1 + a1.size ≤ 9223372036854775807 then (if x7_2.size + 1 + a1.size + 1 ≤ 9223372036854775807 then (if t353 = true then ((msgid_Refs.f k2 (([(⟨(⟨#[73, 110, 45, 82, 101, 112, 108, 121, 45, 84, 111]⟩ : ByteArray), ((⟨#[60]⟩ : ByteArray) ++ a1) ++ (⟨#[62]⟩ : ByteArray)⟩ : S37), (⟨(⟨#[82, 101, 102, 101, 114, 101, 110, 99, 101, 115]⟩ : ByteArray), ((x7_2 ++ (⟨#[60]⟩ : ByteArray)) ++ a1) ++ (⟨#[62]⟩ : ByteArray)⟩ : S37)] : List (S37)))).bind fun t384 => ((missiveref09_SameTexts.f k2 t384 y378).bind fun t387 => (some t387))) else (some false)) else (none)) else (none)) else (none)) else (none)) else (none)) = some r := by first | (rw [hy378]; with_reducible exact H) | (have H2_ := (Option.bind_some _ _).symm.trans H; rw [hy378]; with_reducible exact H2_) | (have H2_ := (Option.bind_some _ _).symm.trans H; with_reducible exact H2_) | with_reducible exact H | (rw [hy378]; exact H) | exact H
                  have Ny378 := Aside0.mk hy378
                  clear hy378
                  by_cases c52 : 1 + a1.size ≤ 9223372036854775807
                  · rw [if_pos c52] at H
                    have c52b0 := eq_true c52
                    have c52b1 : decide (1 + a1.size ≤ 9223372036854775807) = true := decide_eq_true c52
                    try have c52b2 : (9223372036854775807 < 1 + a1.size) = False := eq_false (Nat.not_lt.2 c52)
                    by_cases c53 : 1 + a1.size + 1 ≤ 9223372036854775807
                    · rw [if_pos c53] at H
                      have c53b0 := eq_true c53
                      have c53b1 : decide (1 + a1.size + 1 ≤ 9223372036854775807) = true := decide_eq_true c53
                      try have c53b2 : (9223372036854775807 < 1 + a1.size + 1) = False := eq_false (Nat.not_lt.2 c53)
                      by_cases c54 : x7_2.size + 1 ≤ 9223372036854775807
                      · rw [if_pos c54] at H
                        have c54b0 := eq_true c54
                        have c54b1 : decide (x7_2.size + 1 ≤ 9223372036854775807) = true := decide_eq_true c54
                        try have c54b2 : (9223372036854775807 < x7_2.size + 1) = False := eq_false (Nat.not_lt.2 c54)
                        by_cases c55 : x7_2.size + 1 + a1.size ≤ 9223372036854775807
                        · rw [if_pos c55] at H
                          have c55b0 := eq_true c55
                          have c55b1 : decide (x7_2.size + 1 + a1.size ≤ 9223372036854775807) = true := decide_eq_true c55
                          try have c55b2 : (9223372036854775807 < x7_2.size + 1 + a1.size) = False := eq_false (Nat.not_lt.2 c55)
                          by_cases c56 : x7_2.size + 1 + a1.size + 1 ≤ 9223372036854775807
                          · rw [if_pos c56] at H
                            have c56b0 := eq_true c56
                            have c56b1 : decide (x7_2.size + 1 + a1.size + 1 ≤ 9223372036854775807) = true := decide_eq_true c56
                            try have c56b2 : (9223372036854775807 < x7_2.size + 1 + a1.size + 1) = False := eq_false (Nat.not_lt.2 c56)
                            obtain ⟨y381, hy381⟩ : ∃ y_ : List (S37), y_ = (([(⟨(⟨#[73, 110, 45, 82, 101, 112, 108, 121, 45, 84, 111]⟩ : ByteArray), ((⟨#[60]⟩ : ByteArray) ++ a1) ++ (⟨#[62]⟩ : ByteArray)⟩ : S37), (⟨(⟨#[82, 101, 102, 101, 114, 101, 110, 99, 101, 115]⟩ : ByteArray), ((x7_2 ++ (⟨#[60]⟩ : ByteArray)) ++ a1) ++ (⟨#[62]⟩ : ByteArray)⟩ : S37)] : List (S37))) := ⟨_, rfl⟩
                            replace H : (if t353 = true then ((msgid_Refs.f k2 y381).bind fun t384 => ((missiveref09_SameTexts.f k2 t384 y378).bind fun t387 => (some t387))) else (some false)) = some r := by first | (rw [hy381]; with_reducible exact H) | (have H2_ := (Option.bind_some _ _).symm.trans H; rw [hy381]; with_reducible exact H2_) | (have H2_ := (Option.bind_some _ _).symm.trans H; with_reducible exact H2_) | with_reducible exact H | (rw [hy381]; exact H) | exact H
                            have Ny381 := Aside0.mk hy381
                            clear hy381
                            by_cases c57 : t353 = true
                            · subst c57
                              have H1 : ((msgid_Refs.f k2 y381).bind fun t384 => ((missiveref09_SameTexts.f k2 t384 y378).bind fun t387 => (some t387))) = some r := by rw [if_pos rfl] at H; exact H
                              clear H
                              have H := H1
                              clear H1
                              replace H := Option.bind_eq_some_iff.mp H
                              obtain ⟨t384, A580, H⟩ := H
                              replace H : ((missiveref09_SameTexts.f k2 t384 y378).bind fun t387 => (some t387)) = some r := H
                              have A58 := Aside0.mk A580
                              clear A580
                              replace H := Option.bind_eq_some_iff.mp H
                              obtain ⟨t387, A590, H⟩ := H
                              replace H : (some t387) = some r := H
                              have A59 := Aside0.mk A590
                              clear A590
                              obtain rfl := Option.some.inj H
                              obtain ⟨Ao60, co60, eo60⟩ := Kd.R_slice HO_6.out
                              subst eo60
                              obtain ⟨Ao61, co61, eo61, _⟩ := Kd.Q_slice HO_8.out
                              subst eo61
                              go_wp2_with (first | ((with_reducible refine gate_builtin (b := .append) (xs := #[.tmp 59, .tmp 61]) rfl ?_); at_builtin; refine Kd.Q_append Kd.string (w0 := w) w.heap.size rfl (.tmp 59) (.tmp 61) 31 9 (.string ⟨#[]⟩) 16 rfl Tryd.underlying31 info9 rfl (by decide) (by omega) (.slice Ao61 x8_2.length co61) x8_2 a1 [.string a1] (fun k_ => some k_ ≠ (.slice Ao60 t356.length co60 : Value).ownBlock) (fun _ => False) rfl rfl ?aP (fun _ hk => hk.elim) ?aF ?aO ?aB ?aS ?aL ?_; (case aP => exact rfl); (case aB => exact (by repeat (first | (with_reducible first | exact HB.out | apply below_alloc | apply pw_below_drewN | apply below_drew1) | exact HB.out))); (case aF => exact (fun k_ hk => Kd.fresh' (Kd.R_lt (by (with_reducible repeat (first | apply Kd.R_alloc | apply Kd.R_drewN | apply Kd.R_drew)); exact HO_6.out)) k_ hk)); (case aO => exact (by (with_reducible repeat (first | apply Kd.Q_alloc | apply Kd.Q_drewN | apply Kd.Q_drew)); exact HO_8.out)); (case aS => exact (below_size (by repeat (first | (with_reducible first | exact HB.out | apply below_alloc | apply pw_below_drewN | apply below_drew1) | exact HB.out)))); (case aL => have := LMc51.out; omega); intro v379 w62 ho hb hg hat; rw [← Ny378.out] at ho; have n0_ := Aside0.mk (Kd.R_after (ok := (fun _ => True)) (by (with_reducible repeat (first | apply Kd.R_alloc | apply Kd.R_drewN | apply Kd.R_drew)); exact Kd.R_mono HO_6.out (fun _ hk => ⟨trivial, hk⟩)) hg hat); have n1_ := Aside0.mk (hb); have n2_ := Aside0.mk (ho); clear HO_6; clear HB; clear HO_8; have HO_6 := n0_; have HB := n1_; have HO380 := n2_; clear n0_ n1_ n2_; clear ho hb hg hat) | ((with_reducible refine gate_dst (N := 73) rfl ?_); refine Kd.R_lit k37 _ 37 ?hg (N := 73) ?hd (xs := ([(⟨(⟨#[73, 110, 45, 82, 101, 112, 108, 121, 45, 84, 111]⟩ : ByteArray), ((⟨#[60]⟩ : ByteArray) ++ a1) ++ (⟨#[62]⟩ : ByteArray)⟩ : S37), (⟨(⟨#[82, 101, 102, 101, 114, 101, 110, 99, 101, 115]⟩ : ByteArray), ((x7_2 ++ (⟨#[60]⟩ : ByteArray)) ++ a1) ++ (⟨#[62]⟩ : ByteArray)⟩ : S37)] : List (S37))) (inner := [.string (⟨#[73, 110, 45, 82, 101, 112, 108, 121, 45, 84, 111]⟩ : ByteArray), .string (((⟨#[60]⟩ : ByteArray) ++ a1) ++ (⟨#[62]⟩ : ByteArray)), .string (⟨#[82, 101, 102, 101, 114, 101, 110, 99, 101, 115]⟩ : ByteArray), .string (((x7_2 ++ (⟨#[60]⟩ : ByteArray)) ++ a1) ++ (⟨#[62]⟩ : ByteArray))]) (ok := fun _ => True) (okp := fun _ => True) ?hr ?hp (fun _ hk => hk) trivial (Below.refl _ _) (Nat.le_refl _) (by simp) ?_; (case hd => rfl); (case hg => rfl); (case hr => first | (go_simp; done) | (go_simp; rfl)); (case hp => exact (Reps.c2 (show Kd.M k37 _ _ _ (⟨(⟨#[73, 110, 45, 82, 101, 112, 108, 121, 45, 84, 111]⟩ : ByteArray), ((⟨#[60]⟩ : ByteArray) ++ a1) ++ (⟨#[62]⟩ : ByteArray)⟩ : S37) [.string (⟨#[73, 110, 45, 82, 101, 112, 108, 121, 45, 84, 111]⟩ : ByteArray), .string (((⟨#[60]⟩ : ByteArray) ++ a1) ++ (⟨#[62]⟩ : ByteArray))] from (k37_mkM _ _ _ (⟨(⟨#[73, 110, 45, 82, 101, 112, 108, 121, 45, 84, 111]⟩ : ByteArray), ((⟨#[60]⟩ : ByteArray) ++ a1) ++ (⟨#[62]⟩ : ByteArray)⟩ : S37) )) (Reps.c2 (show Kd.M k37 _ _ _ (⟨(⟨#[82, 101, 102, 101, 114, 101, 110, 99, 101, 115]⟩ : ByteArray), ((x7_2 ++ (⟨#[60]⟩ : ByteArray)) ++ a1) ++ (⟨#[62]⟩ : ByteArray)⟩ : S37) [.string (⟨#[82, 101, 102, 101, 114, 101, 110, 99, 101, 115]⟩ : ByteArray), .string (((x7_2 ++ (⟨#[60]⟩ : ByteArray)) ++ a1) ++ (⟨#[62]⟩ : ByteArray))] from (k37_mkM _ _ _ (⟨(⟨#[82, 101, 102, 101, 114, 101, 110, 99, 101, 115]⟩ : ByteArray), ((x7_2 ++ (⟨#[60]⟩ : ByteArray)) ++ a1) ++ (⟨#[62]⟩ : ByteArray)⟩ : S37) )) (Reps.none _ _)))); intro v382 w63 ho64 hb hg_ hnew_; clear hg_ hnew_; (first | rw [← Ny381.out] at ho64 | (simp only [Int.reduceToNat] at ho64; rw [← Ny381.out] at ho64)); have n0_ := Aside0.mk (Kd.R_below (by (with_reducible repeat (first | apply Kd.R_alloc | apply Kd.R_drewN | apply Kd.R_drew)); exact HO_6.out) hb); have n1_ := Aside0.mk (Kd.Q_below (by (with_reducible repeat (first | apply Kd.Q_alloc | apply Kd.Q_drewN | apply Kd.Q_drew)); exact HO380.out) hb); have n2_ := Aside0.mk (Kd.R_lower ho64 (below_size (by repeat (first | (with_reducible first | exact HB.out | apply below_alloc | apply pw_below_drewN | apply below_drew1) | exact HB.out)))); have n3_ := Aside0.mk (below_step (by repeat (first | (with_reducible first | exact HB.out | apply below_alloc | apply pw_below_drewN | apply below_drew1) | exact HB.out)) hb); clear HO_6; clear HO380; clear HB; have HO_6 := n0_; have HO380 := n1_; have HO383 := n2_; have HB := n3_; clear n0_ n1_ n2_ n3_; clear hb ho64; obtain ⟨Ao65, co65, eo65⟩ := Kd.R_slice HO383.out; subst eo65) | (go_at_call 20; (with_reducible refine (msgid_Refs.calls k2 _ _ y381 t384 _ ?side1 ?side2 A58.out).mono ?_); (case side1 => repeat (first | exact (Kd.R_reads' HO383.out).2.2 | (with_reducible refine Kd.C_alloc ?_ _) | (with_reducible refine Kd.C_drewN ?_ _) | (with_reducible refine Kd.C_drew ?_))); (case side2 => exact (Kd.R_reads' HO383.out).2.1); rintro e w66 ⟨v385, rfl, ho0, hb⟩; have n0_ := Aside0.mk (Kd.R_elder' (by (with_reducible repeat (first | apply Kd.R_alloc | apply Kd.R_drewN | apply Kd.R_drew)); exact HO_6.out) (Kd.R_base ho0) hb); have n1_ := Aside0.mk (Kd.Q_elder' (by (with_reducible repeat (first | apply Kd.Q_alloc | apply Kd.Q_drewN | apply Kd.Q_drew)); exact HO380.out) (Kd.R_base ho0) hb); have n2_ := Aside0.mk (Kd.R_below (by (with_reducible repeat (first | apply Kd.R_alloc | apply Kd.R_drewN | apply Kd.R_drew)); exact HO383.out) hb); have n3_ := Aside0.mk (Kd.R_lower (Kd.R_new' (Kd.R_new' ho0 (Kd.R_lt (by (with_reducible repeat (first | apply Kd.R_alloc | apply Kd.R_drewN | apply Kd.R_drew)); exact HO_6.out))) (Kd.Q_lt (by (with_reducible repeat (first | apply Kd.Q_alloc | apply Kd.Q_drewN | apply Kd.Q_drew)); exact HO380.out))) (below_size (by repeat (first | (with_reducible first | exact HB.out | apply below_alloc | apply pw_below_drewN | apply below_drew1) | exact HB.out)))); have n4_ := Aside0.mk (below_step (by repeat (first | (with_reducible first | exact HB.out | apply below_alloc | apply pw_below_drewN | apply below_drew1) | exact HB.out)) hb); clear HO_6; clear HO380; clear HO383; clear HB; have HO_6 := n0_; have HO380 := n1_; have HO383 := n2_; have HO386 := n3_; have HB := n4_; clear n0_ n1_ n2_ n3_ n4_; (try clear hb); (try clear hb2); (try clear hk); (try clear hi); (try clear ho0); obtain ⟨Ao67, co67, eo67⟩ := Kd.R_slice HO386.out; subst eo67; obtain ⟨Ao68, co68, eo68, _⟩ := Kd.Q_slice HO380.out; subst eo68) | (go_at_call 17; (with_reducible refine (missiveref09_SameTexts.calls k2 _ _ t384 _ _ y378 t387 _ ?side1 ?side2 ?side3 ?side4 A59.out).mono ?_); (case side1 => repeat (first | exact (Kd.R_reads' HO386.out).2.2 | (with_reducible refine Kd.C_alloc ?_ _) | (with_reducible refine Kd.C_drewN ?_ _) | (with_reducible refine Kd.C_drew ?_))); (case side2 => exact (Kd.R_reads' HO386.out).2.1); (case side3 => repeat (first | exact (Kd.Q_reads' HO380.out).2.2 | (with_reducible refine Kd.C_alloc ?_ _) | (with_reducible refine Kd.C_drewN ?_ _) | (with_reducible refine Kd.C_drew ?_))); (case side4 => exact (Kd.Q_reads' HO380.out).2.1); rintro e w' ⟨rfl, ⟨nd, rfl⟩⟩))
                              go_ret
                              exact ⟨by first | rfl | (simp [errW_none, errW_some] <;> rfl) | (simp [*, errW_none, errW_some] <;> rfl), by repeat (first | (with_reducible first | exact HB.out | apply below_alloc | apply pw_below_drewN | apply below_drew1) | exact HB.out)⟩
                            · replace c57 := Bool.eq_false_iff.mpr c57
                              subst c57
                              have H1 : (some false) = some r := by rw [if_neg (show ¬ (false = true) by decide)] at H; exact H
                              clear H
                              have H := H1
                              clear H1
                              obtain rfl := Option.some.inj H
                              obtain ⟨Ao69, co69, eo69⟩ := Kd.R_slice HO_6.out
                              subst eo69
                              obtain ⟨Ao70, co70, eo70, _⟩ := Kd.Q_slice HO_8.out
                              subst eo70
                              go_wp2_with (first | ((with_reducible refine gate_builtin (b := .append) (xs := #[.tmp 59, .tmp 61]) rfl ?_); at_builtin; refine Kd.Q_append Kd.string (w0 := w) w.heap.size rfl (.tmp 59) (.tmp 61) 31 9 (.string ⟨#[]⟩) 16 rfl Tryd.underlying31 info9 rfl (by decide) (by omega) (.slice Ao70 x8_2.length co70) x8_2 a1 [.string a1] (fun k_ => some k_ ≠ (.slice Ao69 t356.length co69 : Value).ownBlock) (fun _ => False) rfl rfl ?aP (fun _ hk => hk.elim) ?aF ?aO ?aB ?aS ?aL ?_; (case aP => exact rfl); (case aB => exact (by repeat (first | (with_reducible first | exact HB.out | apply below_alloc | apply pw_below_drewN | apply below_drew1) | exact HB.out))); (case aF => exact (fun k_ hk => Kd.fresh' (Kd.R_lt (by (with_reducible repeat (first | apply Kd.R_alloc | apply Kd.R_drewN | apply Kd.R_drew)); exact HO_6.out)) k_ hk)); (case aO => exact (by (with_reducible repeat (first | apply Kd.Q_alloc | apply Kd.Q_drewN | apply Kd.Q_drew)); exact HO_8.out)); (case aS => exact (below_size (by repeat (first | (with_reducible first | exact HB.out | apply below_alloc | apply pw_below_drewN | apply below_drew1) | exact HB.out)))); (case aL => have := LMc51.out; omega); intro v379 w71 ho hb hg hat; rw [← Ny378.out] at ho; have n0_ := Aside0.mk (Kd.R_after (ok := (fun _ => True)) (by (with_reducible repeat (first | apply Kd.R_alloc | apply Kd.R_drewN | apply Kd.R_drew)); exact Kd.R_mono HO_6.out (fun _ hk => ⟨trivial, hk⟩)) hg hat); have n1_ := Aside0.mk (hb); have n2_ := Aside0.mk (ho); clear HO_6; clear HB; clear HO_8; have HO_6 := n0_; have HB := n1_; have HO380 := n2_; clear n0_ n1_ n2_; clear ho hb hg hat) | ((with_reducible refine gate_dst (N := 73) rfl ?_); refine Kd.R_lit k37 _ 37 ?hg (N := 73) ?hd (xs := ([(⟨(⟨#[73, 110, 45, 82, 101, 112, 108, 121, 45, 84, 111]⟩ : ByteArray), ((⟨#[60]⟩ : ByteArray) ++ a1) ++ (⟨#[62]⟩ : ByteArray)⟩ : S37), (⟨(⟨#[82, 101, 102, 101, 114, 101, 110, 99, 101, 115]⟩ : ByteArray), ((x7_2 ++ (⟨#[60]⟩ : ByteArray)) ++ a1) ++ (⟨#[62]⟩ : ByteArray)⟩ : S37)] : List (S37))) (inner := [.string (⟨#[73, 110, 45, 82, 101, 112, 108, 121, 45, 84, 111]⟩ : ByteArray), .string (((⟨#[60]⟩ : ByteArray) ++ a1) ++ (⟨#[62]⟩ : ByteArray)), .string (⟨#[82, 101, 102, 101, 114, 101, 110, 99, 101, 115]⟩ : ByteArray), .string (((x7_2 ++ (⟨#[60]⟩ : ByteArray)) ++ a1) ++ (⟨#[62]⟩ : ByteArray))]) (ok := fun _ => True) (okp := fun _ => True) ?hr ?hp (fun _ hk => hk) trivial (Below.refl _ _) (Nat.le_refl _) (by simp) ?_; (case hd => rfl); (case hg => rfl); (case hr => first | (go_simp; done) | (go_simp; rfl)); (case hp => exact (Reps.c2 (show Kd.M k37 _ _ _ (⟨(⟨#[73, 110, 45, 82, 101, 112, 108, 121, 45, 84, 111]⟩ : ByteArray), ((⟨#[60]⟩ : ByteArray) ++ a1) ++ (⟨#[62]⟩ : ByteArray)⟩ : S37) [.string (⟨#[73, 110, 45, 82, 101, 112, 108, 121, 45, 84, 111]⟩ : ByteArray), .string (((⟨#[60]⟩ : ByteArray) ++ a1) ++ (⟨#[62]⟩ : ByteArray))] from (k37_mkM _ _ _ (⟨(⟨#[73, 110, 45, 82, 101, 112, 108, 121, 45, 84, 111]⟩ : ByteArray), ((⟨#[60]⟩ : ByteArray) ++ a1) ++ (⟨#[62]⟩ : ByteArray)⟩ : S37) )) (Reps.c2 (show Kd.M k37 _ _ _ (⟨(⟨#[82, 101, 102, 101, 114, 101, 110, 99, 101, 115]⟩ : ByteArray), ((x7_2 ++ (⟨#[60]⟩ : ByteArray)) ++ a1) ++ (⟨#[62]⟩ : ByteArray)⟩ : S37) [.string (⟨#[82, 101, 102, 101, 114, 101, 110, 99, 101, 115]⟩ : ByteArray), .string (((x7_2 ++ (⟨#[60]⟩ : ByteArray)) ++ a1) ++ (⟨#[62]⟩ : ByteArray))] from (k37_mkM _ _ _ (⟨(⟨#[82, 101, 102, 101, 114, 101, 110, 99, 101, 115]⟩ : ByteArray), ((x7_2 ++ (⟨#[60]⟩ : ByteArray)) ++ a1) ++ (⟨#[62]⟩ : ByteArray)⟩ : S37) )) (Reps.none _ _)))); intro v382 w72 ho73 hb hg_ hnew_; clear hg_ hnew_; (first | rw [← Ny381.out] at ho73 | (simp only [Int.reduceToNat] at ho73; rw [← Ny381.out] at ho73)); have n0_ := Aside0.mk (Kd.R_below (by (with_reducible repeat (first | apply Kd.R_alloc | apply Kd.R_drewN | apply Kd.R_drew)); exact HO_6.out) hb); have n1_ := Aside0.mk (Kd.Q_below (by (with_reducible repeat (first | apply Kd.Q_alloc | apply Kd.Q_drewN | apply Kd.Q_drew)); exact HO380.out) hb); have n2_ := Aside0.mk (Kd.R_lower ho73 (below_size (by repeat (first | (with_reducible first | exact HB.out | apply below_alloc | apply pw_below_drewN | apply below_drew1) | exact HB.out)))); have n3_ := Aside0.mk (below_step (by repeat (first | (with_reducible first | exact HB.out | apply below_alloc | apply pw_below_drewN | apply below_drew1) | exact HB.out)) hb); clear HO_6; clear HO380; clear HB; have HO_6 := n0_; have HO380 := n1_; have HO383 := n2_; have HB := n3_; clear n0_ n1_ n2_ n3_; clear hb ho73))
                              go_ret
                              exact ⟨by first | rfl | (simp [errW_none, errW_some] <;> rfl) | (simp [*, errW_none, errW_some] <;> rfl), by repeat (first | (with_reducible first | exact HB.out | apply below_alloc | apply pw_below_drewN | apply below_drew1) | exact HB.out)⟩
                          · rw [if_neg c56] at H
                            exact absurd H (by simp)
                        · rw [if_neg c55] at H
                          exact absurd H (by simp)
                      · rw [if_neg c54] at H
                        exact absurd H (by simp)
                    · rw [if_neg c53] at H
                      exact absurd H (by simp)
                  · rw [if_neg c52] at H
                    exact absurd H (by simp)
                · rw [if_neg c51] at H
                  exact absurd H (by simp)

end Go.Proofs.YtlldpjcnkckclaaDoor.PA
