/- MsgidRefs: the walk by hand, over the printed contracts: each condition is decided by what the plain part says. -/
import Derived.Test.YtlldpjcnkckclaaDoorPureF
import Derived.RegionTactic
import Derived.Deep.CutBlock
import Derived.Deep.DeepCutAuto
namespace Go.Proofs.YtlldpjcnkckclaaDoor.PA
open Go.RowKit Go.Proofs.YtlldpjcnkckclaaDoorW.PrintWords Go.Proofs.YtlldpjcnkckclaaDoorW.PrintLast Go.Proofs.YtlldpjcnkckclaaDoorW.PrintMore
open Hand (isIn isIn_iff others allOf)
attribute [local go_sem] max2_int min2_int max_two min_two
set_option linter.unusedVariables false
set_option linter.unusedSimpArgs false

theorem below_next {w w1 w2 : World} (h : Below w.heap.size w w1) (k : Below w1.heap.size w1 w2) : Below w.heap.size w w2 :=
  h.trans ⟨k.os, k.tape, k.output, k.size, fun i hi => k.block i (Nat.lt_of_lt_of_le hi h.size)⟩
set_option maxHeartbeats 4000000 in
set_option maxRecDepth 100000 in
theorem refs_few (l : List S37) (m : S37) (A : Option Addr) (c : Nat) (w : World) (hr : Kd.C k37 w A l.length l) (hc : l.length ≤ c) (hG : Hand.Laid w) (kf : Nat) (hf : missivelaw12_few.f kf l = some false) :
    Calls Tryd.prog 5 #[.slice A l.length c, .agg #[.string m.f0, .string m.f1]] w fun e w' => e = .returned (.bool true) ∧ Below w.heap.size w w' := by
  have HF := Aside0.mk hf
  clear hf
  go_enter Tryd.func5, Tryd.ntmps5
  go_wp2_with (first
    | (go_at_call 7; (with_reducible refine (missivelaw12_small.calls 60 true _ small_60 ?gr).mono ?_); (case gr => exact Hand.Laid.below hG ((Below.refl _ _).alloc (Nat.le_refl _) _)); rintro e w1 ⟨rfl, hb1⟩; have hB1 := below_next ((Below.refl _ _).alloc (Nat.le_refl _) _) hb1)
    | (go_at_call 8; (with_reducible refine (missivelaw12_few.calls kf _ _ l false _ ?s1 hc HF.out).mono ?_); (case s1 => exact Kd.C_below hr hB1); rintro e w2 ⟨rfl, hd2⟩; have hB2 := below_next hB1 hd2.below))
  go_ret
  exact ⟨rfl, hB2⟩

theorem In_at {K : Nat} {A : Option Addr} {n c : Nat} {l0 : List ByteArray} {x : ByteArray} {r : Bool} {w : World} (hn : n = l0.length) (hr0 : Kd.C Kd.string w A l0.length l0) (hc0 : l0.length ≤ c) (h : missiveref12_In.f K l0 x = some r) :
    Calls Tryd.prog 23 #[.slice A n c, .string x] w fun e w' => e = .returned (.bool r) ∧ Drawn0 w w' := by
  subst hn
  exact missiveref12_In.calls K A c l0 x r w hr0 hc0 h
theorem C_take {w : World} {A : Option Addr} {xs : List ByteArray} (h : Kd.C Kd.string w A xs.length xs) (n : Nat) (hn : n ≤ xs.length) : Kd.C Kd.string w A (xs.take n).length (xs.take n) := Hand.news_take h n hn

section
variable {ops : Array Oper} {rest : List Oper} {o : Oper} {a : Act} {Q : Exit → Act → World → Prop} {W : World}
theorem wp_rows (hgd : o.guard = none) (s x : Operand) (ho : o.op = .call { callee := .builtin .append, args := #[s, x], argTypes := #[31, 31] })
    (base : Nat) (v : Value) (xs ys : List ByteArray) (hs : a.eval s = v) (A : Option Addr) (n cY : Nat) (hx : a.eval x = .slice A n cY) (hn : n = ys.length) (hR : Kd.R Kd.string 9 W base (fun _ => True) v xs)
    (hC : Kd.C Kd.string W A ys.length ys) (hb : base ≤ W.heap.size) (hl : xs.length + ys.length ≤ 20000)
    (h : ∀ v' w', Kd.R Kd.string 9 w' base (fun _ => True) v' (xs ++ ys) → Below base W w' → wpList Tryd.prog ops Q rest (a.put o.dst v') w') : wpList Tryd.prog ops Q (o :: rest) a W := by
  subst hn
  exact Kd.R_append_rows Kd.string (w0 := W) base hgd s x 31 9 (.string ⟨#[]⟩) 16 ho Tryd.underlying31 info9 rfl (by decide) (by omega) v xs ys A ys.length cY (fun _ => True) (fun _ => False) hs hx hR hC (fun _ _ h => h) (fun _ h => h.elim) (fun _ _ => trivial)
    (Below.refl _ _) hb (by omega) (fun v' w' h1 h2 _ _ => h v' w' h1 h2)
end
theorem empty_row (W : World) : Kd.R Kd.string 9 (W.alloc (.cells #[] 9)) W.heap.size (fun _ => True) (.slice (some ⟨W.heap.size, 0, none⟩) 0 0) [] :=
  Kd.R_of_own (enc := Value.string) (h1 := fun _ => rfl) ⟨rfl, .inr ⟨W.heap.size, 0, #[], rfl, Nat.le_refl _, heap_alloc_new W _, Nat.le_refl _, by unfold maxLen; omega, rfl, rfl⟩⟩ (fun _ _ => trivial)
def r24_T : Bool × List (List Nat × List Nat) := (true, [([], []), ([], []), ([0, 1], [0, 1]), ([], []), ([3], [3]), ([2, 4, 2], [2, 4]), ([5, 5], [5]), ([6, 6, 0, 1, 2, 3, 4, 5, 6], [6])])
def r24_B : List Nat := [0, 0, 3, 0, 8, 31, 63, 127]
theorem r24_tab : rtab .any (opsOf Tryd.f5 24) = r24_T := by kernel_rfl
theorem r24_bits : waitsOk r24_T.2 r24_B = true := by kernel_rfl
set_option maxHeartbeats 4000000 in
set_option maxRecDepth 100000 in
theorem refs_main (l : List S37) (m : S37) (A : Option Addr) (c : Nat) (w : World) (hr : Kd.C k37 w A l.length l) (hc : l.length ≤ c) (hG : Hand.Laid w) (k : Nat)
    (x y : ByteArray) (one two : Bool) (a b L M : List ByteArray) (hf : missivelaw12_few.f k l = some true)
    (g1 : header_Get.f k l (⟨#[82, 101, 102, 101, 114, 101, 110, 99, 101, 115]⟩ : ByteArray) = some (x, one)) (g2 : header_Get.f k l (⟨#[73, 110, 45, 82, 101, 112, 108, 121, 45, 84, 111]⟩ : ByteArray) = some (y, two))
    (i1 : msgid_Ids.f k x = some a) (i2 : msgid_Ids.f k y = some b) (r1 : msgid_Refs.f k l = some L) (r2 : msgid_Refs.f k (l ++ [m]) = some M) (T : Told k a b L)
    (hM : one = true → two = true → missiveref09_SameTexts.f k L M = some true) (hlen : l.length ≤ 30) :
    Calls Tryd.prog 5 #[.slice A l.length c, .agg #[.string m.f0, .string m.f1]] w fun e w' => e = .returned (.bool true) ∧ Below w.heap.size w w' := by
  have HF := Aside0.mk hf
  have HG1 := Aside0.mk g1
  have HG2 := Aside0.mk g2
  have HI1 := Aside0.mk i1
  have HI2 := Aside0.mk i2
  have HR1 := Aside0.mk r1
  have HR2 := Aside0.mk r2
  have HT := Aside0.mk T
  have HM := Aside0.mk hM
  clear hf g1 g2 i1 i2 r1 r2 T hM
  have hr0 : Kd.C k37 (w.alloc (.cells #[.string m.f0, .string m.f1] 37)) A l.length l := Kd.C_below hr ((Below.refl _ _).alloc (Nat.le_refl _) _)
  have hG0 : Hand.Laid (w.alloc (.cells #[.string m.f0, .string m.f1] 37)) := Hand.Laid.below hG ((Below.refl _ _).alloc (Nat.le_refl _) _)
  have hW0 : Below w.heap.size w (w.alloc (.cells #[.string m.f0, .string m.f1] 37)) := (Below.refl _ _).alloc (Nat.le_refl _) _
  go_enter Tryd.func5, Tryd.ntmps5
  go_wp2_with (first
    | (go_at_call 7; (with_reducible refine (missivelaw12_small.calls 60 true _ small_60 ?gr).mono ?_); (case gr => exact hG0); rintro e w1 ⟨rfl, hB1⟩)
    | (go_at_call 8; (with_reducible refine (missivelaw12_few.calls k _ _ l true _ ?s1 hc HF.out).mono ?_); (case s1 => exact Kd.C_below hr0 hB1); rintro e w2 ⟨rfl, hd2⟩; have hB2 := below_next hB1 hd2.below)
    | (go_at_call 22; (with_reducible refine (header_Get.calls k _ _ l _ x one _ ?s1 hc HG1.out).mono ?_); (case s1 => exact Kd.C_below hr0 hB2); rintro e w3 ⟨rfl, hb3⟩; have hB3 := below_next hB2 hb3)
    | (go_at_call 22; (with_reducible refine (header_Get.calls k _ _ l _ y two _ ?s1 hc HG2.out).mono ?_); (case s1 => exact Kd.C_below hr0 hB3); rintro e w4 ⟨rfl, hb4⟩; have hB4 := below_next hB3 hb4)
    | (go_at_call 18; (with_reducible refine (msgid_Ids.calls k x a _ HI1.out).mono ?_); rintro e w5 ⟨va, rfl, ha5, hb5⟩; have hB5 := below_next hB4 hb5; obtain ⟨Aa, ca, ea⟩ := Kd.R_slice ha5; subst ea)
    | (go_at_call 18; (with_reducible refine (msgid_Ids.calls k y b _ HI2.out).mono ?_); rintro e w6 ⟨vb, rfl, ha6, hb6⟩; have hB6 := below_next hB5 hb6; obtain ⟨Ab, cb, eb⟩ := Kd.R_slice ha6; subst eb)
    | (go_at_call 20; (with_reducible refine (msgid_Refs.calls k _ _ l L _ ?s1 hc HR1.out).mono ?_); (case s1 => exact Kd.C_below hr0 hB6); rintro e w7 ⟨vl, rfl, ha7, hb7⟩; have hB7 := below_next hB6 hb7; obtain ⟨Al, cl, el⟩ := Kd.R_slice ha7; subst el))
  have hw57 : Below w5.heap.size w5 w7 := below_next hb6 hb7
  have HCa := Aside0.mk (Kd.C_below (Kd.R_reads' ha5).2.2 hw57)
  have HCb := Aside0.mk (Kd.C_below (Kd.R_reads' ha6).2.2 hb7)
  have HCl := Aside0.mk (Kd.R_reads' ha7).2.2
  have hca := (Kd.R_reads' ha5).2.1
  have hcb := (Kd.R_reads' ha6).2.1
  have hcl := (Kd.R_reads' ha7).2.1
  have HOl := Aside0.mk ha7
  have hs6 : w.heap.size ≤ w6.heap.size := Nat.le_trans (by simp) hB6.size
  have HBK7 : w7.heap[w.heap.size]? = some (.cells #[.string m.f0, .string m.f1] 37 (0, 0)) := (hB7.block w.heap.size (by simp)).trans (heap_alloc_new w _)
  clear ha5 ha6 ha7 hb3 hb4 hb5 hb6 hb7 hw57 hB1 hB2 hB3 hB4 hB5 hB6 hd2
  have hL := HT.out.le
  go_loopw [13] (fun i wr => ∃ n : Nat, n ≤ L.length ∧ i = .int .i64 n ∧ Aside0 (Below w7.heap.size w7 wr)) (fun i _ => L.length - (intOf i).toNat)
  case atStart => exact ⟨0, Nat.zero_le _, rfl, ⟨Below.refl _ _⟩⟩
  case round =>
    obtain ⟨n, hn, rfl, HBr⟩ := hrel
    by_cases hlt : n < L.length
    · have HCl1 := Aside0.mk (Kd.C_below HCl.out HBr.out)
      have HCa1 := Aside0.mk (Kd.C_below HCa.out HBr.out)
      have HCb1 := Aside0.mk (Kd.C_below HCb.out HBr.out)
      have p0 : (0 : Int) ≤ (n : Int) := by omega
      have q0 : (n : Int) < (L.length : Int) := by omega
      have q1 : (n : Int) ≤ (cl : Int) := by omega
      obtain ⟨ad, hAd, hc0⟩ := Kd.at_string HCl1.out (n : Int) p0 q0
      cases hAd
      rw [Int.toNat_natCast] at hc0
      have hV := Aside0.mk (HT.out.valid n hlt)
      have hN := Aside0.mk (HT.out.fresh n hlt)
      have hIa := Aside0.mk (HT.out.ina n hlt)
      have hln : (L.take n).length = n := by rw [List.length_take]; omega
      go_wp2
      by_cases hia : isIn a (rdOf ByteArray.empty L (n : Int)) = true
      · rw [hia] at hIa
        go_quiet (first
          | (go_at_call 13; (with_reducible refine (msgid_Valid.calls k _ true _ hV.out).mono ?_); rintro e w' ⟨rfl, ⟨nd, rfl⟩⟩; (try first | exact ⟨rfl, _, World.drewN_drewN _ _ _⟩ | exact ⟨rfl, _, rfl⟩))
          | (go_at_call 23; (with_reducible refine (In_at (A := some ad) (l0 := L.take n) (r := false) ?s0 ?s1 ?s2 hN.out).mono ?_); (case s0 => exact hln.symm); (case s1 => repeat (first | exact C_take HCl1.out n (by omega) | (with_reducible refine Kd.C_drewN ?_ _) | (with_reducible refine Kd.C_drew ?_))); (case s2 => rw [hln]; omega); rintro e w' ⟨rfl, ⟨nd, rfl⟩⟩; (try first | exact ⟨rfl, _, World.drewN_drewN _ _ _⟩ | exact ⟨rfl, _, rfl⟩))
          | (go_at_call 23; (with_reducible refine (In_at (A := Aa) (l0 := a) (r := true) rfl ?s1 ?s2 hIa.out).mono ?_); (case s1 => repeat (first | exact HCa1.out | (with_reducible refine Kd.C_drewN ?_ _) | (with_reducible refine Kd.C_drew ?_))); (case s2 => exact hca); rintro e w' ⟨rfl, ⟨nd, rfl⟩⟩; (try first | exact ⟨rfl, _, World.drewN_drewN _ _ _⟩ | exact ⟨rfl, _, rfl⟩)))
        go_wp2
        go_roundw
        case rel => exact ⟨n + 1, by omega, by push_cast; rfl, ⟨pw_below_drewN HBr.out _⟩⟩
        case measure => simp [intOf]; omega
      · have hif : isIn a (rdOf ByteArray.empty L (n : Int)) = false := by simpa using hia
        rw [hif] at hIa
        have hIb := Aside0.mk (HT.out.inb n hlt hif)
        go_quiet (first
          | (go_at_call 13; (with_reducible refine (msgid_Valid.calls k _ true _ hV.out).mono ?_); rintro e w' ⟨rfl, ⟨nd, rfl⟩⟩; (try first | exact ⟨rfl, _, World.drewN_drewN _ _ _⟩ | exact ⟨rfl, _, rfl⟩))
          | (go_at_call 23; (with_reducible refine (In_at (A := some ad) (l0 := L.take n) (r := false) ?s0 ?s1 ?s2 hN.out).mono ?_); (case s0 => exact hln.symm); (case s1 => repeat (first | exact C_take HCl1.out n (by omega) | (with_reducible refine Kd.C_drewN ?_ _) | (with_reducible refine Kd.C_drew ?_))); (case s2 => rw [hln]; omega); rintro e w' ⟨rfl, ⟨nd, rfl⟩⟩; (try first | exact ⟨rfl, _, World.drewN_drewN _ _ _⟩ | exact ⟨rfl, _, rfl⟩))
          | (go_at_call 23; (with_reducible refine (In_at (A := Aa) (l0 := a) (r := false) rfl ?s1 ?s2 hIa.out).mono ?_); (case s1 => repeat (first | exact HCa1.out | (with_reducible refine Kd.C_drewN ?_ _) | (with_reducible refine Kd.C_drew ?_))); (case s2 => exact hca); rintro e w' ⟨rfl, ⟨nd, rfl⟩⟩; (try first | exact ⟨rfl, _, World.drewN_drewN _ _ _⟩ | exact ⟨rfl, _, rfl⟩))
          | (go_at_call 23; (with_reducible refine (In_at (A := Ab) (l0 := b) (r := true) rfl ?s1 ?s2 hIb.out).mono ?_); (case s1 => repeat (first | exact HCb1.out | (with_reducible refine Kd.C_drewN ?_ _) | (with_reducible refine Kd.C_drew ?_))); (case s2 => exact hcb); rintro e w' ⟨rfl, ⟨nd, rfl⟩⟩; (try first | exact ⟨rfl, _, World.drewN_drewN _ _ _⟩ | exact ⟨rfl, _, rfl⟩)))
        go_wp2
        go_roundw
        case rel => exact ⟨n + 1, by omega, by push_cast; rfl, ⟨pw_below_drewN HBr.out _⟩⟩
        case measure => simp [intOf]; omega
    · obtain rfl : n = L.length := by omega
      have HCl1 := Aside0.mk (Kd.C_below HCl.out HBr.out)
      have HCa1 := Aside0.mk (Kd.C_below HCa.out HBr.out)
      have HCb1 := Aside0.mk (Kd.C_below HCb.out HBr.out)
      have HCl0 := HCl
      have HCa0 := HCa
      have HCb0 := HCb
      clear HCl HCa HCb
      have d3 : ¬ 100 < L.length := by omega
      go_upto_region 14 with (fail)
      go_cut [97] from 82 to 97 (fun v wc => v = .bool false ∧ Aside0 (Below w7.heap.size w7 wc))
      case first =>
        by_cases hz : L.length = 0
        · obtain ⟨za, zb⟩ := HT.out.nil hz
          obtain rfl : L = [] := List.eq_nil_of_length_eq_zero hz
          obtain rfl : a = [] := List.eq_nil_of_length_eq_zero za
          obtain rfl : b = [] := List.eq_nil_of_length_eq_zero zb
          go_wp2_with (fail)
          go_meet
          case rel => exact ⟨rfl, HBr⟩
        · have z1 : (L.length == 0) = false := by simpa using hz
          have z2 : ((L.length : Int) == 0) = false := by simp; intro e; exact hz (by simp [e])
          have z3 : ¬ L = [] := by rintro rfl; exact hz rfl
          have z4 : ¬ (L.length : Int) = 0 := by omega
          have d2 : decide (100 < (L.length : Int)) = false := decide_eq_false (by omega)
          go_wp2_with (fail)
          go_meet
          case rel => exact ⟨rfl, HBr⟩
      case rest =>
        clear HBr HCl1 HCa1 HCb1
        obtain ⟨rfl, HBr⟩ := hcut
        have HCl1 := Aside0.mk (Kd.C_below HCl0.out HBr.out)
        have HCa1 := Aside0.mk (Kd.C_below HCa0.out HBr.out)
        have HCb1 := Aside0.mk (Kd.C_below HCb0.out HBr.out)
        go_upto_region 16 with (fail)
        go_cut [142] from 98 to 142 (fun v wx => v = .bool false ∧ Aside0 (Below w7.heap.size w7 wx))
        case first =>
          by_cases hz : L.length = 0
          · obtain ⟨za, zb⟩ := HT.out.nil hz
            obtain rfl : L = [] := List.eq_nil_of_length_eq_zero hz
            obtain rfl : a = [] := List.eq_nil_of_length_eq_zero za
            obtain rfl : b = [] := List.eq_nil_of_length_eq_zero zb
            go_quiet (fail)
            go_wp2
            go_meet
            case rel => exact ⟨rfl, ⟨pw_below_drewN HBr.out _⟩⟩
          · have z5 : 0 < L.length := by omega
            have hwL : IntKind.i64.wrap ((L.length : Int) - 1) = (L.length : Int) - 1 := IntWalk.i64_in _ (by omega)
            have p0 : (0 : Int) ≤ (L.length : Int) - 1 := by omega
            have q0 : (L.length : Int) - 1 < (L.length : Int) := by omega
            have p1 : (1 : Int) ≤ (L.length : Int) := by omega
            obtain ⟨ad, hAd, hc0⟩ := Kd.at_string HCl1.out ((L.length : Int) - 1) p0 q0
            cases hAd
            rw [show ((L.length : Int) - 1).toNat = L.length - 1 by omega] at hc0
            by_cases ha : a.length = 0
            · have z6 : ¬ 0 < a.length := by omega
              have z7 : (a.length == 0) = true := by simpa using ha
              by_cases hb : b.length = 0
              · exact absurd (HT.out.some_ z5) (by omega)
              have hb6 : 0 < b.length := by omega
              obtain ⟨_, he⟩ := HT.out.lastb ha hb6
              have hlb := HT.out.lb
              have hwa : IntKind.i64.wrap ((b.length : Int) - 1) = (b.length : Int) - 1 := IntWalk.i64_in _ (by omega)
              have pa0 : (0 : Int) ≤ (b.length : Int) - 1 := by omega
              have qa0 : (b.length : Int) - 1 < (b.length : Int) := by omega
              have pa1 : (1 : Int) ≤ (b.length : Int) := by omega
              have hmx : (if (b.length : Int) - 1 < 0 then (0 : Int) else (b.length : Int) - 1) = (b.length : Int) - 1 := if_neg (by omega)
              have hng : ¬ (b.length : Int) - 1 < 0 := by omega
              obtain ⟨ae, hAe, hc1⟩ := Kd.at_string HCb1.out ((b.length : Int) - 1) pa0 qa0
              cases hAe
              rw [show ((b.length : Int) - 1).toNat = b.length - 1 by omega] at hc1
              rw [he] at hc0
              obtain rfl : a = [] := List.eq_nil_of_length_eq_zero ha
              go_quiet (fail)
              go_wp2
              go_meet
              case rel => exact ⟨rfl, ⟨pw_below_drewN HBr.out _⟩⟩
            · have z6 : 0 < a.length := by omega
              obtain ⟨_, he⟩ := HT.out.lasta z6
              have z7 : (a.length == 0) = false := by simpa using ha
              have hla := HT.out.la
              have hwa : IntKind.i64.wrap ((a.length : Int) - 1) = (a.length : Int) - 1 := IntWalk.i64_in _ (by omega)
              have pa0 : (0 : Int) ≤ (a.length : Int) - 1 := by omega
              have qa0 : (a.length : Int) - 1 < (a.length : Int) := by omega
              have pa1 : (1 : Int) ≤ (a.length : Int) := by omega
              have hmx : (if (a.length : Int) - 1 < 0 then (0 : Int) else (a.length : Int) - 1) = (a.length : Int) - 1 := if_neg (by omega)
              have hng : ¬ (a.length : Int) - 1 < 0 := by omega
              obtain ⟨ae, hAe, hc1⟩ := Kd.at_string HCa1.out ((a.length : Int) - 1) pa0 qa0
              cases hAe
              rw [show ((a.length : Int) - 1).toNat = a.length - 1 by omega] at hc1
              rw [he] at hc0
              go_quiet (fail)
              go_wp2
              go_meet
              case rel => exact ⟨rfl, ⟨pw_below_drewN HBr.out _⟩⟩
        case rest =>
          clear HBr HCl1 HCa1 HCb1
          obtain ⟨rfl, HBr⟩ := hcut
          have HCl1 := Aside0.mk (Kd.C_below HCl0.out HBr.out)
          have HCa1 := Aside0.mk (Kd.C_below HCa0.out HBr.out)
          have HCb1 := Aside0.mk (Kd.C_below HCb0.out HBr.out)
          have hla := HT.out.la
          have hlb := HT.out.lb
          go_wp2_with (first
            | (at_builtin; (with_reducible apply wp_rows (xs := []) (ys := a) (A := Aa)); (case hgd => rfl); (case ho => rfl); (case hs => rfl); (case hx => rfl); (case hn => rfl); (case hR => exact empty_row _); (case hC => exact Kd.C_below HCa1.out ((Below.refl _ _).alloc (Nat.le_refl _) _)); (case hb => simp); (case hl => simp; omega); intro v9 w9 ho9 hb9; simp only [List.nil_append] at ho9)
            | (at_builtin; (with_reducible apply wp_rows (xs := a) (ys := b) (A := Ab)); (case hgd => rfl); (case ho => rfl); (case hs => rfl); (case hx => rfl); (case hn => rfl); (case hR => exact ho9); (case hC => exact Kd.C_below HCb1.out (((Below.refl _ _).alloc (Nat.le_refl _) _).trans hb9)); (case hb => exact Nat.le_trans (by simp) hb9.size); (case hl => omega); intro v10 w10 ho10 hb10))
          obtain ⟨Ac, cc, ec⟩ := Kd.R_slice ho10
          subst ec
          have HCc := Aside0.mk (Kd.R_reads' ho10).2.2
          have hcc := (Kd.R_reads' ho10).2.1
          have hw10 := ((((Below.refl _ _).alloc (Nat.le_refl _) (Obj.cells #[] 9)).trans hb9).trans hb10)
          have HB10 := Aside0.mk (below_next HBr.out hw10)
          have HCl2 := Aside0.mk (Kd.C_below HCl0.out HB10.out)
          clear ho9 ho10 hb9 hb10 hw10 HBr HCl1 HCa1 HCb1
          have hlab : (a ++ b).length ≤ 12000 := by simp; omega
          go_loopw [15] (fun i wr => ∃ n : Nat, n ≤ (a ++ b).length ∧ i = .int .i64 n ∧ Aside0 (Below w10.heap.size w10 wr)) (fun i _ => (a ++ b).length - (intOf i).toNat)
          case atStart => exact ⟨0, Nat.zero_le _, rfl, ⟨Below.refl _ _⟩⟩
          case round =>
            obtain ⟨n, hn, rfl, HBr⟩ := hrel
            by_cases hlt : n < (a ++ b).length ∧ L.length < 100
            · obtain ⟨hlt, h100⟩ := hlt
              have HCl3 := Aside0.mk (Kd.C_below HCl2.out HBr.out)
              have HCc3 := Aside0.mk (Kd.C_below HCc.out HBr.out)
              have p0 : (0 : Int) ≤ (n : Int) := by omega
              have q0 : (n : Int) < ((a ++ b).length : Int) := by omega
              obtain ⟨ad, hAd, hc0⟩ := Kd.at_string HCc3.out (n : Int) p0 q0
              cases hAd
              rw [Int.toNat_natCast] at hc0
              have hI := Aside0.mk (HT.out.all h100 n hlt)
              generalize a ++ b = ab at *
              go_wp2_with (go_at_call 23; (with_reducible refine (In_at (l0 := L) (r := true) rfl ?s1 ?s2 hI.out).mono ?_); (case s1 => exact HCl3.out); (case s2 => exact hcl); rintro e w' ⟨rfl, hd⟩)
              go_roundw
              case rel => exact ⟨n + 1, by omega, by push_cast; rfl, ⟨below_next HBr.out hd.below⟩⟩
              case measure => simp [intOf]; omega
            · have HB11 := Aside0.mk (below_next HB10.out HBr.out)
              have HCl3 := Aside0.mk (Kd.C_below HCl2.out HBr.out)
              have hend : ¬ (n : Int) < ((a ++ b).length : Int) ∨ ((n : Int) < ((a ++ b).length : Int) ∧ ¬ (L.length : Int) < 100) := by omega
              have hB12 := Aside0.mk (below_next hB7 HB11.out)
              have hr12 := Aside0.mk (Kd.C_below hr0 hB12.out)
              clear HB10 HBr HCl2 HCl0 HCa0 HCb0 HCc hlt
              generalize a ++ b = ab at *
              rcases hend with he | ⟨he, he2⟩
              all_goals
                go_upto_region 24 with (fail)
                go_cut [16] from 166 to 172 (fun v wx => ∃ (Am : Option Addr) (cm : Nat), v = .slice Am M.length cm ∧ M.length ≤ cm ∧ Aside0 (Kd.C Kd.string wx Am M.length M) ∧ Aside0 (Kd.C Kd.string wx Al L.length L) ∧ Aside0 (Below w.heap.size w wx))
                case first =>
                  have HOL := Aside0.mk (Kd.R_mono (Kd.R_lower (Kd.R_below HOl.out HB11.out) hs6) (ok' := fun k_ => some k_ ≠ (Value.slice none 0 0).ownBlock) (fun _ _ => by simp [Value.ownBlock]))
                  have HO14 : Aside0 (Kd.R Kd.string 9 wr w.heap.size (fun k_ => some k_ ≠ (.slice Al L.length cl : Value).ownBlock) (.slice none 0 0) ([] : List ByteArray)) := ⟨Kd.R_nil _ _ _ _ _⟩
                  have BK : wr.heap[w.heap.size]? = some (.cells #[.string m.f0, .string m.f1] 37 (0, 0)) := (HB11.out.block w.heap.size (Nat.lt_of_lt_of_le (by simp) hB7.size)).trans HBK7
                  have HB : Aside0 (Below w.heap.size w wr) := ⟨hW0.trans ⟨hB12.out.os, hB12.out.tape, hB12.out.output, hB12.out.size, fun i hi => hB12.out.block i (Nat.lt_of_lt_of_le hi hW0.size)⟩⟩
                  have HR0 := Aside0.mk hr
                  have HC0 := Aside0.mk hc
                  obtain ⟨gb288, hgb⟩ : ∃ g, g = w.heap.size := ⟨_, rfl⟩
                  have BK288 : Aside0 (wr.heap[gb288]? = some (.cells #[.string m.f0, .string m.f1] 37 (0, 0))) := ⟨by rw [hgb]; exact BK⟩
                  have GE288 : Aside0 (w.heap.size ≤ gb288) := ⟨Nat.le_of_eq hgb.symm⟩
                  rw [show (Value.pointer (some ⟨w.heap.size, 0, none⟩)) = Value.pointer (some ⟨gb288, 0, none⟩) from by rw [hgb]]
                  obtain ⟨v329, hv329⟩ : ∃ v : Value, Value.slice none 0 0 = v := ⟨_, rfl⟩
                  obtain ⟨y328, hy328⟩ : ∃ q : List ByteArray, [] = q := ⟨_, rfl⟩
                  rw [hv329] at HOL HO14
                  rw [hy328] at HO14
                  have HO_12 := Aside0.mk (Kd.R_drew HOL.out)
                  have HO_14 := Aside0.mk (Kd.R_drew HO14.out)
                  have BK288 := Aside0.mk (blk_drew BK288.out)
                  have HB := Aside0.mk (below_drew1 HB.out)
                  obtain ⟨y333, hy333⟩ : ∃ y_ : List (S37), y_ = (([] : List (S37))) := ⟨_, rfl⟩
                  have Ny333 := Aside0.mk hy333
                  have LMc110 : Aside0 (y333.length + l.length < 4398046511104) := ⟨by rw [hy333]; simp; omega⟩
                  obtain ⟨y336, hy336⟩ : ∃ y_ : List (S37), y_ = (y333 ++ l) := ⟨_, rfl⟩
                  have Ny336 := Aside0.mk hy336
                  obtain ⟨y339, hy339⟩ : ∃ y_ : List (S37), y_ = (([(⟨m.f0, m.f1⟩ : S37)] : List (S37))) := ⟨_, rfl⟩
                  have Ny339 := Aside0.mk hy339
                  have LMc111 : Aside0 (y336.length + y339.length < 4398046511104) := ⟨by rw [hy336, hy339, hy333]; simp; omega⟩
                  obtain ⟨y342, hy342⟩ : ∃ y_ : List (S37), y_ = (y336 ++ y339) := ⟨_, rfl⟩
                  have Ny342 := Aside0.mk hy342
                  have A112 : Aside0 (msgid_Refs.f k y342 = some M) := ⟨by rw [hy342, hy336, hy339, hy333, List.nil_append]; exact HR2.out⟩
                  have HGB := Aside0.mk hgb
                  clear hgb hy333 hy336 hy339 hy342 HOL HO14 BK hv329 hy328 HB11 hB12 HCl3 HOl hr12
                  refine start_ (n := 8) (S := fun w' => w'.cell? ⟨gb288, 0, none⟩ = some (.string m.f0) ∧ w'.cell? ⟨gb288, 1, none⟩ = some (.string m.f1)) (ds := []) #[false, false, false, false, false, false, false, false] (by kernel_rfl) rfl rfl ⟨(blk_cell BK288.out 0).trans rfl, (blk_cell BK288.out 1).trans rfl⟩ (fun hHeld => ?_); refine with_tabW r24_tab r24_bits (fun HT_ HW_ => ?_)
                  generalize wr.drew = w159 at HO_12 HO_14 BK288 HB hHeld ⊢
                  refine pure_ (i := 1) (N := some 167) (v := ?_) (a' := ?_) #[false, true, false, false, false, false, false, false] rfl rfl (any_of HT_.out (by kernel_rfl)) (fun _ _ _ h => h) (Or.inl ⟨by rfl, ?_⟩) ?_ ?_
                  rotate_left
                  · intro w'
                    go_simp
                    with_reducible rfl
                  rotate_left
                  · simp only [Act.put, List.setIfInBounds_toArray, List.set_cons_zero, List.set_cons_succ, i64_w, i32_w]
                    rfl
                  refine take_ (i := 3) (N := some 169) (v := ?_) (a' := ?_) #[false, true, false, true, false, false, false, false] rfl rfl (take_ofW HT_.out HW_.out (by kernel_rfl)) (fun _ _ _ h => h) (Or.inl ⟨by rfl, ?_⟩) hHeld ?_ ?_
                  rotate_left
                  · rintro w' ⟨s0, s1⟩
                    go_simp
                    with_reducible rfl
                  rotate_left
                  · simp only [Act.put, List.setIfInBounds_toArray, List.set_cons_zero, List.set_cons_succ, i64_w, i32_w]
                    rfl
                  refine join_ (σ := Value × Value × Value) 3 #[true, true, true, true, true, false, false, false] (fun s_ => [(166, s_.1), (168, s_.2.1), (170, s_.2.2)]) (fun s_ w' => (w'.cell? ⟨gb288, 0, none⟩ = some (.string m.f0) ∧ w'.cell? ⟨gb288, 1, none⟩ = some (.string m.f1)) ∧ (Kd.R k37 37 w' w.heap.size (fun k_ => some k_ ≠ (s_.2.2 : Value).ownBlock ∧ k_ ≠ gb288) s_.2.1 y336) ∧ (Kd.R k37 37 w' w.heap.size (fun k_ => some k_ ≠ (s_.2.1 : Value).ownBlock ∧ k_ ≠ gb288) s_.2.2 y339) ∧ (Kd.R Kd.string 9 w' w.heap.size (fun k_ => some k_ ≠ (v329 : Value).ownBlock) (.slice Al L.length cl) L) ∧ (Kd.R Kd.string 9 w' w.heap.size (fun k_ => some k_ ≠ (.slice Al L.length cl : Value).ownBlock) v329 y328) ∧ (w'.heap[gb288]? = some (.cells #[.string m.f0, .string m.f1] 37 (0, 0))) ∧ (Below w.heap.size w w')) ?_ ?_
                  rotate_left
                  · intro hCont
                    refine two_ (i := 0) (j := 4) (Ni := some 166) (Nj := some 170) #[true, true, false, true, false, false, false, false] #[false, true, false, true, true, false, false, false] rfl rfl rfl rfl (two_of HT_.out (by kernel_rfl)) (by decide) (by decide) (fun K hK => ?_) (fun K hK => ?_)
                    · skip
                      refine Kd.R_lit_step k37 _ 37 ?hg (N := 166) ?hd (xs := ([] : List (S37))) (inner := []) (ok := fun _ => True) (okp := fun _ => True) ?hr ?hp (fun _ hk => hk) trivial (Below.refl _ _) (Nat.le_refl _) (by simp) ?_; (case hd => rfl); (case hg => rfl); (case hr => first | (go_simp; done) | (go_simp; rfl)); (case hp => exact (Reps.none _ _))
                      intro v334 w160 ho161 hb hg_ hnew_
                      clear hg_ hnew_
                      (first | rw [← Ny333.out] at ho161 | (simp only [Int.reduceToNat] at ho161; rw [← Ny333.out] at ho161))
                      have n0_ := Aside0.mk (Kd.R_below (by (with_reducible repeat (first | apply Kd.R_alloc | apply Kd.R_drewN | apply Kd.R_drew)); exact HO_12.out) hb)
                      have n1_ := Aside0.mk (Kd.R_below (by (with_reducible repeat (first | apply Kd.R_alloc | apply Kd.R_drewN | apply Kd.R_drew)); exact HO_14.out) hb)
                      have n2_ := Aside0.mk (Kd.R_lower (Kd.R_newB ho161 (g := gb288) (o := .cells #[.string m.f0, .string m.f1] 37 (0, 0)) (by (with_reducible repeat (first | refine blk_drewN ?_ _ | refine blk_drew ?_ | refine blk_alloc ?_ _)); exact BK288.out)) (below_size (by repeat (first | (with_reducible first | exact HB.out | apply below_alloc | apply pw_below_drewN | apply below_drew1 | refine below_set ?_ GE288.out) | exact HB.out))))
                      have n3_ := Aside0.mk (blk_below (g := gb288) (o := .cells #[.string m.f0, .string m.f1] 37 (0, 0)) (by (with_reducible repeat (first | refine blk_drewN ?_ _ | refine blk_drew ?_ | refine blk_alloc ?_ _)); exact BK288.out) hb)
                      have n4_ := Aside0.mk (below_step (by repeat (first | (with_reducible first | exact HB.out | apply below_alloc | apply pw_below_drewN | apply below_drew1 | refine below_set ?_ GE288.out) | exact HB.out)) hb)
                      clear HO_12
                      clear HO_14
                      clear BK288
                      clear HB
                      have HO_12 := n0_
                      have HO_14 := n1_
                      have HO335 := n2_
                      have BK288 := n3_
                      have HB := n4_
                      clear n0_ n1_ n2_ n3_ n4_
                      clear hb ho161
                      refine hK.out _ _ ⟨(blk_cell BK288.out 0).trans rfl, (blk_cell BK288.out 1).trans rfl⟩ (fun hHeld => ?_)
                      clear hK K
                      refine norm_ (a' := ?_) ?_ ?_
                      rotate_left
                      · show Act.put _ (some 166) _ = _
                        simp only [Act.put, List.setIfInBounds_toArray, List.set_cons_zero, List.set_cons_succ, i64_w, i32_w]
                        rfl
                      refine two_ (i := 2) (j := 4) (Ni := some 168) (Nj := some 170) #[true, true, true, true, false, false, false, false] #[true, true, false, true, true, false, false, false] rfl rfl rfl rfl (two_of HT_.out (by kernel_rfl)) (by decide) (by decide) (fun K hK => ?_) (fun K hK => ?_)
                      · skip
                        refine Kd.R_append_rows_step k37 (w0 := w) w.heap.size (by rfl) (.tmp 166) (.tmp 167) 22 37 (.agg #[(.string ⟨#[]⟩), (.string ⟨#[]⟩)]) 32 rfl Tryd.underlying22 info37 rfl (by decide) (by omega) v334 y333 l _ _ _ (fun k_ => k_ ≠ gb288) (fun _ => False) rfl rfl ?aO ?aR (fun _ _ h => h) (fun _ h => h.elim) ?aF ?aB ?aS ?aL ?_
                        (case aR => repeat (first | exact (Kd.C_below HR0.out HB.out) | (with_reducible refine Kd.C_alloc ?_ _) | (with_reducible refine Kd.C_drewN ?_ _) | (with_reducible refine Kd.C_drew ?_)))
                        (case aB => exact (by repeat (first | (with_reducible first | exact HB.out | apply below_alloc | apply pw_below_drewN | apply below_drew1 | refine below_set ?_ GE288.out) | exact HB.out)))
                        (case aF => exact (fun k_ hk => Kd.freshB (g := gb288) (o := .cells #[.string m.f0, .string m.f1] 37 (0, 0)) (by (with_reducible repeat (first | refine blk_drewN ?_ _ | refine blk_drew ?_ | refine blk_alloc ?_ _)); exact BK288.out) k_ hk))
                        (case aO => exact (by (with_reducible repeat (first | apply Kd.R_alloc | apply Kd.R_drewN | apply Kd.R_drew)); exact Kd.R_mono HO335.out (fun _ hk => hk.2)))
                        (case aS => exact (below_size (by repeat (first | (with_reducible first | exact HB.out | apply below_alloc | apply pw_below_drewN | apply below_drew1 | refine below_set ?_ GE288.out) | exact HB.out))))
                        (case aL => have := LMc110.out; omega)
                        intro v337 w162 ho hb hg hat
                        rw [← Ny336.out] at ho
                        have n0_ := Aside0.mk (Kd.R_over' (by (with_reducible repeat (first | apply Kd.R_alloc | apply Kd.R_drewN | apply Kd.R_drew)); exact HO_12.out) (Kd.R_typed (by (with_reducible repeat (first | apply Kd.R_alloc | apply Kd.R_drewN | apply Kd.R_drew)); exact HO335.out)) (by decide) hg)
                        have n1_ := Aside0.mk (Kd.R_over' (by (with_reducible repeat (first | apply Kd.R_alloc | apply Kd.R_drewN | apply Kd.R_drew)); exact HO_14.out) (Kd.R_typed (by (with_reducible repeat (first | apply Kd.R_alloc | apply Kd.R_drewN | apply Kd.R_drew)); exact HO335.out)) (by decide) hg)
                        have n2_ := Aside0.mk (blk_grown (g := gb288) (o := .cells #[.string m.f0, .string m.f1] 37 (0, 0)) (by (with_reducible repeat (first | refine blk_drewN ?_ _ | refine blk_drew ?_ | refine blk_alloc ?_ _)); exact BK288.out) hg (Kd.R_away HO335.out (fun _ hk => hk.2)))
                        have n3_ := Aside0.mk (hb)
                        have n4_ := Aside0.mk (ho)
                        clear HO_12
                        clear HO_14
                        clear BK288
                        clear HB
                        clear HO335
                        have HO_12 := n0_
                        have HO_14 := n1_
                        have BK288 := n2_
                        have HB := n3_
                        have HO338 := n4_
                        clear n0_ n1_ n2_ n3_ n4_
                        clear ho hb hg hat
                        refine hK.out _ _ ⟨(blk_cell BK288.out 0).trans rfl, (blk_cell BK288.out 1).trans rfl⟩ (fun hHeld => ?_)
                        clear hK K
                        refine norm_ (a' := ?_) ?_ ?_
                        rotate_left
                        · show Act.put _ (some 168) _ = _
                          simp only [Act.put, List.setIfInBounds_toArray, List.set_cons_zero, List.set_cons_succ, i64_w, i32_w]
                          rfl
                        refine one_ (i := 4) (N := some 170) #[true, true, true, true, true, false, false, false] rfl rfl (one_of HT_.out (by kernel_rfl)) (by decide) (fun K hK => ?_)
                        refine Kd.R_lit_step k37 _ 37 ?hg (N := 170) ?hd (xs := ([(⟨m.f0, m.f1⟩ : S37)] : List (S37))) (inner := [.string m.f0, .string m.f1]) (ok := fun _ => True) (okp := fun _ => True) ?hr ?hp (fun _ hk => hk) trivial (Below.refl _ _) (Nat.le_refl _) (by simp) ?_; (case hd => rfl); (case hg => rfl); (case hr => first | (go_simp; done) | (go_simp; rfl)); (case hp => exact (Reps.c2 (show Kd.M k37 _ _ _ (⟨m.f0, m.f1⟩ : S37) [.string m.f0, .string m.f1] from (k37_mkM _ _ _ (⟨m.f0, m.f1⟩ : S37) )) (Reps.none _ _)))
                        intro v340 w163 ho164 hb hg_ hnew_
                        clear hg_ hnew_
                        (first | rw [← Ny339.out] at ho164 | (simp only [Int.reduceToNat] at ho164; rw [← Ny339.out] at ho164))
                        have n0_ := Aside0.mk (Kd.R_below (by (with_reducible repeat (first | apply Kd.R_alloc | apply Kd.R_drewN | apply Kd.R_drew)); exact HO_12.out) hb)
                        have n1_ := Aside0.mk (Kd.R_below (by (with_reducible repeat (first | apply Kd.R_alloc | apply Kd.R_drewN | apply Kd.R_drew)); exact HO_14.out) hb)
                        have n2_ := Aside0.mk (Kd.R_elder' (by (with_reducible repeat (first | apply Kd.R_alloc | apply Kd.R_drewN | apply Kd.R_drew)); exact HO338.out) (Kd.R_base ho164) hb)
                        have n3_ := Aside0.mk (Kd.R_lower (Kd.R_newB (Kd.R_new' ho164 (Kd.R_lt (by (with_reducible repeat (first | apply Kd.R_alloc | apply Kd.R_drewN | apply Kd.R_drew)); exact HO338.out))) (g := gb288) (o := .cells #[.string m.f0, .string m.f1] 37 (0, 0)) (by (with_reducible repeat (first | refine blk_drewN ?_ _ | refine blk_drew ?_ | refine blk_alloc ?_ _)); exact BK288.out)) (below_size (by repeat (first | (with_reducible first | exact HB.out | apply below_alloc | apply pw_below_drewN | apply below_drew1 | refine below_set ?_ GE288.out) | exact HB.out))))
                        have n4_ := Aside0.mk (blk_below (g := gb288) (o := .cells #[.string m.f0, .string m.f1] 37 (0, 0)) (by (with_reducible repeat (first | refine blk_drewN ?_ _ | refine blk_drew ?_ | refine blk_alloc ?_ _)); exact BK288.out) hb)
                        have n5_ := Aside0.mk (below_step (by repeat (first | (with_reducible first | exact HB.out | apply below_alloc | apply pw_below_drewN | apply below_drew1 | refine below_set ?_ GE288.out) | exact HB.out)) hb)
                        clear HO_12
                        clear HO_14
                        clear HO338
                        clear BK288
                        clear HB
                        have HO_12 := n0_
                        have HO_14 := n1_
                        have HO338 := n2_
                        have HO341 := n3_
                        have BK288 := n4_
                        have HB := n5_
                        clear n0_ n1_ n2_ n3_ n4_ n5_
                        clear hb ho164
                        refine hK.out _ _ ⟨(blk_cell BK288.out 0).trans rfl, (blk_cell BK288.out 1).trans rfl⟩ (fun hHeld => ?_)
                        clear hK K
                        refine norm_ (a' := ?_) ?_ ?_
                        rotate_left
                        · show Act.put _ (some 170) _ = _
                          simp only [Act.put, List.setIfInBounds_toArray, List.set_cons_zero, List.set_cons_succ, i64_w, i32_w]
                          rfl
                        exact norm_ (by simp only [putAll, Act.put, List.setIfInBounds_toArray, List.set_cons_zero, List.set_cons_succ]) (hCont (v334, v337, v340) _ ⟨hHeld, (by (with_reducible repeat (first | apply Kd.R_alloc | apply Kd.R_drewN | apply Kd.R_drew)); exact Kd.R_mono HO338.out (fun _ hk => ⟨hk.2, hk.1⟩)), (by (with_reducible repeat (first | apply Kd.R_alloc | apply Kd.R_drewN | apply Kd.R_drew)); exact Kd.R_mono HO341.out (fun _ hk => ⟨hk.1.2, hk.2⟩)), (by (with_reducible repeat (first | apply Kd.R_alloc | apply Kd.R_drewN | apply Kd.R_drew)); exact HO_12.out), (by (with_reducible repeat (first | apply Kd.R_alloc | apply Kd.R_drewN | apply Kd.R_drew)); exact HO_14.out), (by (with_reducible repeat (first | refine blk_drewN ?_ _ | refine blk_drew ?_ | refine blk_alloc ?_ _)); exact BK288.out), (by repeat (first | (with_reducible first | exact HB.out | apply below_alloc | apply pw_below_drewN | apply below_drew1 | refine below_set ?_ GE288.out) | exact HB.out))⟩)
                      · skip
                        refine Kd.R_lit_step k37 _ 37 ?hg (N := 170) ?hd (xs := ([(⟨m.f0, m.f1⟩ : S37)] : List (S37))) (inner := [.string m.f0, .string m.f1]) (ok := fun _ => True) (okp := fun _ => True) ?hr ?hp (fun _ hk => hk) trivial (Below.refl _ _) (Nat.le_refl _) (by simp) ?_; (case hd => rfl); (case hg => rfl); (case hr => first | (go_simp; done) | (go_simp; rfl)); (case hp => exact (Reps.c2 (show Kd.M k37 _ _ _ (⟨m.f0, m.f1⟩ : S37) [.string m.f0, .string m.f1] from (k37_mkM _ _ _ (⟨m.f0, m.f1⟩ : S37) )) (Reps.none _ _)))
                        intro v340 w162 ho163 hb hg_ hnew_
                        clear hg_ hnew_
                        (first | rw [← Ny339.out] at ho163 | (simp only [Int.reduceToNat] at ho163; rw [← Ny339.out] at ho163))
                        have n0_ := Aside0.mk (Kd.R_below (by (with_reducible repeat (first | apply Kd.R_alloc | apply Kd.R_drewN | apply Kd.R_drew)); exact HO_12.out) hb)
                        have n1_ := Aside0.mk (Kd.R_below (by (with_reducible repeat (first | apply Kd.R_alloc | apply Kd.R_drewN | apply Kd.R_drew)); exact HO_14.out) hb)
                        have n2_ := Aside0.mk (Kd.R_elder' (by (with_reducible repeat (first | apply Kd.R_alloc | apply Kd.R_drewN | apply Kd.R_drew)); exact HO335.out) (Kd.R_base ho163) hb)
                        have n3_ := Aside0.mk (Kd.R_lower (Kd.R_newB (Kd.R_new' ho163 (Kd.R_lt (by (with_reducible repeat (first | apply Kd.R_alloc | apply Kd.R_drewN | apply Kd.R_drew)); exact HO335.out))) (g := gb288) (o := .cells #[.string m.f0, .string m.f1] 37 (0, 0)) (by (with_reducible repeat (first | refine blk_drewN ?_ _ | refine blk_drew ?_ | refine blk_alloc ?_ _)); exact BK288.out)) (below_size (by repeat (first | (with_reducible first | exact HB.out | apply below_alloc | apply pw_below_drewN | apply below_drew1 | refine below_set ?_ GE288.out) | exact HB.out))))
                        have n4_ := Aside0.mk (blk_below (g := gb288) (o := .cells #[.string m.f0, .string m.f1] 37 (0, 0)) (by (with_reducible repeat (first | refine blk_drewN ?_ _ | refine blk_drew ?_ | refine blk_alloc ?_ _)); exact BK288.out) hb)
                        have n5_ := Aside0.mk (below_step (by repeat (first | (with_reducible first | exact HB.out | apply below_alloc | apply pw_below_drewN | apply below_drew1 | refine below_set ?_ GE288.out) | exact HB.out)) hb)
                        clear HO_12
                        clear HO_14
                        clear HO335
                        clear BK288
                        clear HB
                        have HO_12 := n0_
                        have HO_14 := n1_
                        have HO335 := n2_
                        have HO341 := n3_
                        have BK288 := n4_
                        have HB := n5_
                        clear n0_ n1_ n2_ n3_ n4_ n5_
                        clear hb ho163
                        refine hK.out _ _ ⟨(blk_cell BK288.out 0).trans rfl, (blk_cell BK288.out 1).trans rfl⟩ (fun hHeld => ?_)
                        clear hK K
                        refine norm_ (a' := ?_) ?_ ?_
                        rotate_left
                        · show Act.put _ (some 170) _ = _
                          simp only [Act.put, List.setIfInBounds_toArray, List.set_cons_zero, List.set_cons_succ, i64_w, i32_w]
                          rfl
                        refine one_ (i := 2) (N := some 168) #[true, true, true, true, true, false, false, false] rfl rfl (one_of HT_.out (by kernel_rfl)) (by decide) (fun K hK => ?_)
                        refine Kd.R_append_rows_step k37 (w0 := w) w.heap.size (by rfl) (.tmp 166) (.tmp 167) 22 37 (.agg #[(.string ⟨#[]⟩), (.string ⟨#[]⟩)]) 32 rfl Tryd.underlying22 info37 rfl (by decide) (by omega) v334 y333 l _ _ _ (fun k_ => some k_ ≠ (v340 : Value).ownBlock ∧ k_ ≠ gb288) (fun _ => False) rfl rfl ?aO ?aR (fun _ _ h => h) (fun _ h => h.elim) ?aF ?aB ?aS ?aL ?_
                        (case aR => repeat (first | exact (Kd.C_below HR0.out HB.out) | (with_reducible refine Kd.C_alloc ?_ _) | (with_reducible refine Kd.C_drewN ?_ _) | (with_reducible refine Kd.C_drew ?_)))
                        (case aB => exact (by repeat (first | (with_reducible first | exact HB.out | apply below_alloc | apply pw_below_drewN | apply below_drew1 | refine below_set ?_ GE288.out) | exact HB.out)))
                        (case aF => exact (fun k_ hk => ⟨Kd.fresh' (Kd.R_lt (by (with_reducible repeat (first | apply Kd.R_alloc | apply Kd.R_drewN | apply Kd.R_drew)); exact HO341.out)) k_ hk, Kd.freshB (g := gb288) (o := .cells #[.string m.f0, .string m.f1] 37 (0, 0)) (by (with_reducible repeat (first | refine blk_drewN ?_ _ | refine blk_drew ?_ | refine blk_alloc ?_ _)); exact BK288.out) k_ hk⟩))
                        (case aO => exact (by (with_reducible repeat (first | apply Kd.R_alloc | apply Kd.R_drewN | apply Kd.R_drew)); exact Kd.R_mono HO335.out (fun _ hk => ⟨hk.2, hk.1.2⟩)))
                        (case aS => exact (below_size (by repeat (first | (with_reducible first | exact HB.out | apply below_alloc | apply pw_below_drewN | apply below_drew1 | refine below_set ?_ GE288.out) | exact HB.out))))
                        (case aL => have := LMc110.out; omega)
                        intro v337 w164 ho hb hg hat
                        rw [← Ny336.out] at ho
                        have n0_ := Aside0.mk (Kd.R_over' (by (with_reducible repeat (first | apply Kd.R_alloc | apply Kd.R_drewN | apply Kd.R_drew)); exact HO_12.out) (Kd.R_typed (by (with_reducible repeat (first | apply Kd.R_alloc | apply Kd.R_drewN | apply Kd.R_drew)); exact HO335.out)) (by decide) hg)
                        have n1_ := Aside0.mk (Kd.R_over' (by (with_reducible repeat (first | apply Kd.R_alloc | apply Kd.R_drewN | apply Kd.R_drew)); exact HO_14.out) (Kd.R_typed (by (with_reducible repeat (first | apply Kd.R_alloc | apply Kd.R_drewN | apply Kd.R_drew)); exact HO335.out)) (by decide) hg)
                        have n2_ := Aside0.mk (blk_grown (g := gb288) (o := .cells #[.string m.f0, .string m.f1] 37 (0, 0)) (by (with_reducible repeat (first | refine blk_drewN ?_ _ | refine blk_drew ?_ | refine blk_alloc ?_ _)); exact BK288.out) hg (Kd.R_away HO335.out (fun _ hk => hk.1.2)))
                        have n3_ := Aside0.mk (Kd.R_after (ok := (fun k_ => k_ ≠ gb288)) (by (with_reducible repeat (first | apply Kd.R_alloc | apply Kd.R_drewN | apply Kd.R_drew)); exact Kd.R_mono HO341.out (fun _ hk => ⟨hk.2, hk.1.2⟩)) hg hat)
                        have n4_ := Aside0.mk (hb)
                        have n5_ := Aside0.mk (ho)
                        clear HO_12
                        clear HO_14
                        clear BK288
                        clear HO341
                        clear HB
                        clear HO335
                        have HO_12 := n0_
                        have HO_14 := n1_
                        have BK288 := n2_
                        have HO341 := n3_
                        have HB := n4_
                        have HO338 := n5_
                        clear n0_ n1_ n2_ n3_ n4_ n5_
                        clear ho hb hg hat
                        refine hK.out _ _ ⟨(blk_cell BK288.out 0).trans rfl, (blk_cell BK288.out 1).trans rfl⟩ (fun hHeld => ?_)
                        clear hK K
                        refine norm_ (a' := ?_) ?_ ?_
                        rotate_left
                        · show Act.put _ (some 168) _ = _
                          simp only [Act.put, List.setIfInBounds_toArray, List.set_cons_zero, List.set_cons_succ, i64_w, i32_w]
                          rfl
                        exact norm_ (by simp only [putAll, Act.put, List.setIfInBounds_toArray, List.set_cons_zero, List.set_cons_succ]) (hCont (v334, v337, v340) _ ⟨hHeld, (by (with_reducible repeat (first | apply Kd.R_alloc | apply Kd.R_drewN | apply Kd.R_drew)); exact HO338.out), (by (with_reducible repeat (first | apply Kd.R_alloc | apply Kd.R_drewN | apply Kd.R_drew)); exact Kd.R_mono HO341.out (fun _ hk => ⟨hk.2, hk.1⟩)), (by (with_reducible repeat (first | apply Kd.R_alloc | apply Kd.R_drewN | apply Kd.R_drew)); exact HO_12.out), (by (with_reducible repeat (first | apply Kd.R_alloc | apply Kd.R_drewN | apply Kd.R_drew)); exact HO_14.out), (by (with_reducible repeat (first | refine blk_drewN ?_ _ | refine blk_drew ?_ | refine blk_alloc ?_ _)); exact BK288.out), (by repeat (first | (with_reducible first | exact HB.out | apply below_alloc | apply pw_below_drewN | apply below_drew1 | refine below_set ?_ GE288.out) | exact HB.out))⟩)
                    · skip
                      refine Kd.R_lit_step k37 _ 37 ?hg (N := 170) ?hd (xs := ([(⟨m.f0, m.f1⟩ : S37)] : List (S37))) (inner := [.string m.f0, .string m.f1]) (ok := fun _ => True) (okp := fun _ => True) ?hr ?hp (fun _ hk => hk) trivial (Below.refl _ _) (Nat.le_refl _) (by simp) ?_; (case hd => rfl); (case hg => rfl); (case hr => first | (go_simp; done) | (go_simp; rfl)); (case hp => exact (Reps.c2 (show Kd.M k37 _ _ _ (⟨m.f0, m.f1⟩ : S37) [.string m.f0, .string m.f1] from (k37_mkM _ _ _ (⟨m.f0, m.f1⟩ : S37) )) (Reps.none _ _)))
                      intro v340 w160 ho161 hb hg_ hnew_
                      clear hg_ hnew_
                      (first | rw [← Ny339.out] at ho161 | (simp only [Int.reduceToNat] at ho161; rw [← Ny339.out] at ho161))
                      have n0_ := Aside0.mk (Kd.R_below (by (with_reducible repeat (first | apply Kd.R_alloc | apply Kd.R_drewN | apply Kd.R_drew)); exact HO_12.out) hb)
                      have n1_ := Aside0.mk (Kd.R_below (by (with_reducible repeat (first | apply Kd.R_alloc | apply Kd.R_drewN | apply Kd.R_drew)); exact HO_14.out) hb)
                      have n2_ := Aside0.mk (Kd.R_lower (Kd.R_newB ho161 (g := gb288) (o := .cells #[.string m.f0, .string m.f1] 37 (0, 0)) (by (with_reducible repeat (first | refine blk_drewN ?_ _ | refine blk_drew ?_ | refine blk_alloc ?_ _)); exact BK288.out)) (below_size (by repeat (first | (with_reducible first | exact HB.out | apply below_alloc | apply pw_below_drewN | apply below_drew1 | refine below_set ?_ GE288.out) | exact HB.out))))
                      have n3_ := Aside0.mk (blk_below (g := gb288) (o := .cells #[.string m.f0, .string m.f1] 37 (0, 0)) (by (with_reducible repeat (first | refine blk_drewN ?_ _ | refine blk_drew ?_ | refine blk_alloc ?_ _)); exact BK288.out) hb)
                      have n4_ := Aside0.mk (below_step (by repeat (first | (with_reducible first | exact HB.out | apply below_alloc | apply pw_below_drewN | apply below_drew1 | refine below_set ?_ GE288.out) | exact HB.out)) hb)
                      clear HO_12
                      clear HO_14
                      clear BK288
                      clear HB
                      have HO_12 := n0_
                      have HO_14 := n1_
                      have HO341 := n2_
                      have BK288 := n3_
                      have HB := n4_
                      clear n0_ n1_ n2_ n3_ n4_
                      clear hb ho161
                      refine hK.out _ _ ⟨(blk_cell BK288.out 0).trans rfl, (blk_cell BK288.out 1).trans rfl⟩ (fun hHeld => ?_)
                      clear hK K
                      refine norm_ (a' := ?_) ?_ ?_
                      rotate_left
                      · show Act.put _ (some 170) _ = _
                        simp only [Act.put, List.setIfInBounds_toArray, List.set_cons_zero, List.set_cons_succ, i64_w, i32_w]
                        rfl
                      refine one_ (i := 0) (N := some 166) #[true, true, false, true, true, false, false, false] rfl rfl (one_of HT_.out (by kernel_rfl)) (by decide) (fun K hK => ?_)
                      refine Kd.R_lit_step k37 _ 37 ?hg (N := 166) ?hd (xs := ([] : List (S37))) (inner := []) (ok := fun _ => True) (okp := fun _ => True) ?hr ?hp (fun _ hk => hk) trivial (Below.refl _ _) (Nat.le_refl _) (by simp) ?_; (case hd => rfl); (case hg => rfl); (case hr => first | (go_simp; done) | (go_simp; rfl)); (case hp => exact (Reps.none _ _))
                      intro v334 w162 ho163 hb hg_ hnew_
                      clear hg_ hnew_
                      (first | rw [← Ny333.out] at ho163 | (simp only [Int.reduceToNat] at ho163; rw [← Ny333.out] at ho163))
                      have n0_ := Aside0.mk (Kd.R_below (by (with_reducible repeat (first | apply Kd.R_alloc | apply Kd.R_drewN | apply Kd.R_drew)); exact HO_12.out) hb)
                      have n1_ := Aside0.mk (Kd.R_below (by (with_reducible repeat (first | apply Kd.R_alloc | apply Kd.R_drewN | apply Kd.R_drew)); exact HO_14.out) hb)
                      have n2_ := Aside0.mk (Kd.R_elder' (by (with_reducible repeat (first | apply Kd.R_alloc | apply Kd.R_drewN | apply Kd.R_drew)); exact HO341.out) (Kd.R_base ho163) hb)
                      have n3_ := Aside0.mk (Kd.R_lower (Kd.R_newB (Kd.R_new' ho163 (Kd.R_lt (by (with_reducible repeat (first | apply Kd.R_alloc | apply Kd.R_drewN | apply Kd.R_drew)); exact HO341.out))) (g := gb288) (o := .cells #[.string m.f0, .string m.f1] 37 (0, 0)) (by (with_reducible repeat (first | refine blk_drewN ?_ _ | refine blk_drew ?_ | refine blk_alloc ?_ _)); exact BK288.out)) (below_size (by repeat (first | (with_reducible first | exact HB.out | apply below_alloc | apply pw_below_drewN | apply below_drew1 | refine below_set ?_ GE288.out) | exact HB.out))))
                      have n4_ := Aside0.mk (blk_below (g := gb288) (o := .cells #[.string m.f0, .string m.f1] 37 (0, 0)) (by (with_reducible repeat (first | refine blk_drewN ?_ _ | refine blk_drew ?_ | refine blk_alloc ?_ _)); exact BK288.out) hb)
                      have n5_ := Aside0.mk (below_step (by repeat (first | (with_reducible first | exact HB.out | apply below_alloc | apply pw_below_drewN | apply below_drew1 | refine below_set ?_ GE288.out) | exact HB.out)) hb)
                      clear HO_12
                      clear HO_14
                      clear HO341
                      clear BK288
                      clear HB
                      have HO_12 := n0_
                      have HO_14 := n1_
                      have HO341 := n2_
                      have HO335 := n3_
                      have BK288 := n4_
                      have HB := n5_
                      clear n0_ n1_ n2_ n3_ n4_ n5_
                      clear hb ho163
                      refine hK.out _ _ ⟨(blk_cell BK288.out 0).trans rfl, (blk_cell BK288.out 1).trans rfl⟩ (fun hHeld => ?_)
                      clear hK K
                      refine norm_ (a' := ?_) ?_ ?_
                      rotate_left
                      · show Act.put _ (some 166) _ = _
                        simp only [Act.put, List.setIfInBounds_toArray, List.set_cons_zero, List.set_cons_succ, i64_w, i32_w]
                        rfl
                      refine one_ (i := 2) (N := some 168) #[true, true, true, true, true, false, false, false] rfl rfl (one_of HT_.out (by kernel_rfl)) (by decide) (fun K hK => ?_)
                      refine Kd.R_append_rows_step k37 (w0 := w) w.heap.size (by rfl) (.tmp 166) (.tmp 167) 22 37 (.agg #[(.string ⟨#[]⟩), (.string ⟨#[]⟩)]) 32 rfl Tryd.underlying22 info37 rfl (by decide) (by omega) v334 y333 l _ _ _ (fun k_ => some k_ ≠ (v340 : Value).ownBlock ∧ k_ ≠ gb288) (fun _ => False) rfl rfl ?aO ?aR (fun _ _ h => h) (fun _ h => h.elim) ?aF ?aB ?aS ?aL ?_
                      (case aR => repeat (first | exact (Kd.C_below HR0.out HB.out) | (with_reducible refine Kd.C_alloc ?_ _) | (with_reducible refine Kd.C_drewN ?_ _) | (with_reducible refine Kd.C_drew ?_)))
                      (case aB => exact (by repeat (first | (with_reducible first | exact HB.out | apply below_alloc | apply pw_below_drewN | apply below_drew1 | refine below_set ?_ GE288.out) | exact HB.out)))
                      (case aF => exact (fun k_ hk => ⟨Kd.fresh' (Kd.R_lt (by (with_reducible repeat (first | apply Kd.R_alloc | apply Kd.R_drewN | apply Kd.R_drew)); exact HO341.out)) k_ hk, Kd.freshB (g := gb288) (o := .cells #[.string m.f0, .string m.f1] 37 (0, 0)) (by (with_reducible repeat (first | refine blk_drewN ?_ _ | refine blk_drew ?_ | refine blk_alloc ?_ _)); exact BK288.out) k_ hk⟩))
                      (case aO => exact (by (with_reducible repeat (first | apply Kd.R_alloc | apply Kd.R_drewN | apply Kd.R_drew)); exact Kd.R_mono HO335.out (fun _ hk => ⟨hk.1.2, hk.2⟩)))
                      (case aS => exact (below_size (by repeat (first | (with_reducible first | exact HB.out | apply below_alloc | apply pw_below_drewN | apply below_drew1 | refine below_set ?_ GE288.out) | exact HB.out))))
                      (case aL => have := LMc110.out; omega)
                      intro v337 w164 ho hb hg hat
                      rw [← Ny336.out] at ho
                      have n0_ := Aside0.mk (Kd.R_over' (by (with_reducible repeat (first | apply Kd.R_alloc | apply Kd.R_drewN | apply Kd.R_drew)); exact HO_12.out) (Kd.R_typed (by (with_reducible repeat (first | apply Kd.R_alloc | apply Kd.R_drewN | apply Kd.R_drew)); exact HO335.out)) (by decide) hg)
                      have n1_ := Aside0.mk (Kd.R_over' (by (with_reducible repeat (first | apply Kd.R_alloc | apply Kd.R_drewN | apply Kd.R_drew)); exact HO_14.out) (Kd.R_typed (by (with_reducible repeat (first | apply Kd.R_alloc | apply Kd.R_drewN | apply Kd.R_drew)); exact HO335.out)) (by decide) hg)
                      have n2_ := Aside0.mk (blk_grown (g := gb288) (o := .cells #[.string m.f0, .string m.f1] 37 (0, 0)) (by (with_reducible repeat (first | refine blk_drewN ?_ _ | refine blk_drew ?_ | refine blk_alloc ?_ _)); exact BK288.out) hg (Kd.R_away HO335.out (fun _ hk => hk.2)))
                      have n3_ := Aside0.mk (Kd.R_after (ok := (fun k_ => k_ ≠ gb288)) (by (with_reducible repeat (first | apply Kd.R_alloc | apply Kd.R_drewN | apply Kd.R_drew)); exact Kd.R_mono HO341.out (fun _ hk => ⟨hk.1.2, hk.2⟩)) hg hat)
                      have n4_ := Aside0.mk (hb)
                      have n5_ := Aside0.mk (ho)
                      clear HO_12
                      clear HO_14
                      clear BK288
                      clear HO341
                      clear HB
                      clear HO335
                      have HO_12 := n0_
                      have HO_14 := n1_
                      have BK288 := n2_
                      have HO341 := n3_
                      have HB := n4_
                      have HO338 := n5_
                      clear n0_ n1_ n2_ n3_ n4_ n5_
                      clear ho hb hg hat
                      refine hK.out _ _ ⟨(blk_cell BK288.out 0).trans rfl, (blk_cell BK288.out 1).trans rfl⟩ (fun hHeld => ?_)
                      clear hK K
                      refine norm_ (a' := ?_) ?_ ?_
                      rotate_left
                      · show Act.put _ (some 168) _ = _
                        simp only [Act.put, List.setIfInBounds_toArray, List.set_cons_zero, List.set_cons_succ, i64_w, i32_w]
                        rfl
                      exact norm_ (by simp only [putAll, Act.put, List.setIfInBounds_toArray, List.set_cons_zero, List.set_cons_succ]) (hCont (v334, v337, v340) _ ⟨hHeld, (by (with_reducible repeat (first | apply Kd.R_alloc | apply Kd.R_drewN | apply Kd.R_drew)); exact HO338.out), (by (with_reducible repeat (first | apply Kd.R_alloc | apply Kd.R_drewN | apply Kd.R_drew)); exact Kd.R_mono HO341.out (fun _ hk => ⟨hk.2, hk.1⟩)), (by (with_reducible repeat (first | apply Kd.R_alloc | apply Kd.R_drewN | apply Kd.R_drew)); exact HO_12.out), (by (with_reducible repeat (first | apply Kd.R_alloc | apply Kd.R_drewN | apply Kd.R_drew)); exact HO_14.out), (by (with_reducible repeat (first | refine blk_drewN ?_ _ | refine blk_drew ?_ | refine blk_alloc ?_ _)); exact BK288.out), (by repeat (first | (with_reducible first | exact HB.out | apply below_alloc | apply pw_below_drewN | apply below_drew1 | refine below_set ?_ GE288.out) | exact HB.out))⟩)
                  rintro ⟨v334, v337, v340⟩ w165 ⟨hS_, h0_, h1_, h2_, h3_, h4_, h5_⟩
                  have n0_ : Aside0 (Kd.R k37 37 w165 w.heap.size (fun k_ => some k_ ≠ (v340 : Value).ownBlock ∧ k_ ≠ gb288) v337 y336) := ⟨h0_⟩
                  have n1_ : Aside0 (Kd.R k37 37 w165 w.heap.size (fun k_ => some k_ ≠ (v337 : Value).ownBlock ∧ k_ ≠ gb288) v340 y339) := ⟨h1_⟩
                  have n2_ : Aside0 (Kd.R Kd.string 9 w165 w.heap.size (fun k_ => some k_ ≠ (v329 : Value).ownBlock) (.slice Al L.length cl) L) := ⟨h2_⟩
                  have n3_ : Aside0 (Kd.R Kd.string 9 w165 w.heap.size (fun k_ => some k_ ≠ (.slice Al L.length cl : Value).ownBlock) v329 y328) := ⟨h3_⟩
                  have n4_ : Aside0 (w165.heap[gb288]? = some (.cells #[.string m.f0, .string m.f1] 37 (0, 0))) := ⟨h4_⟩
                  have n5_ : Aside0 (Below w.heap.size w w165) := ⟨h5_⟩
                  clear HO_12
                  clear HO_14
                  clear BK288
                  clear HB
                  clear h0_ h1_ h2_ h3_ h4_ h5_
                  have HO338 := n0_
                  have HO341 := n1_
                  have HO_12 := n2_
                  have HO_14 := n3_
                  have BK288 := n4_
                  have HB := n5_
                  clear n0_ n1_ n2_ n3_ n4_ n5_
                  have hHeld : w165.cell? ⟨gb288, 0, none⟩ = some (.string m.f0) ∧ w165.cell? ⟨gb288, 1, none⟩ = some (.string m.f1) := hS_
                  obtain ⟨Ao167, co167, eo167⟩ := Kd.R_slice HO341.out
                  (first | subst eo167 | (injection eo167 with f1_ f2_ f3_; have f4_ := f1_.symm; have f5_ := f3_.symm; clear f1_ f2_ f3_; subst f4_; subst f5_))
                  refine norm_ (a' := ?_) ?_ ?_
                  rotate_left
                  · simp only [putAll, Act.put, List.setIfInBounds_toArray, List.set_cons_zero, List.set_cons_succ]
                    rfl
                  refine one_ (i := 5) (N := some 171) #[true, true, true, true, true, true, false, false] rfl rfl (one_of HT_.out (by kernel_rfl)) (by decide) (fun K hK => ?_)
                  refine Kd.R_append_rows_step k37 (w0 := w) w.heap.size (by rfl) (.tmp 168) (.tmp 170) 22 37 (.agg #[(.string ⟨#[]⟩), (.string ⟨#[]⟩)]) 32 rfl Tryd.underlying22 info37 rfl (by decide) (by omega) v337 y336 y339 _ _ _ (fun k_ => some k_ ≠ (.slice Ao167 y339.length co167 : Value).ownBlock ∧ k_ ≠ gb288) (fun _ => False) rfl rfl ?aO ?aR (fun _ _ h => h) (fun _ h => h.elim) ?aF ?aB ?aS ?aL ?_
                  (case aR => repeat (first | exact (Kd.R_reads' HO341.out).2.2 | (with_reducible refine Kd.C_alloc ?_ _) | (with_reducible refine Kd.C_drewN ?_ _) | (with_reducible refine Kd.C_drew ?_)))
                  (case aB => exact (by repeat (first | (with_reducible first | exact HB.out | apply below_alloc | apply pw_below_drewN | apply below_drew1 | refine below_set ?_ GE288.out) | exact HB.out)))
                  (case aF => exact (fun k_ hk => ⟨Kd.fresh' (Kd.R_lt (by (with_reducible repeat (first | apply Kd.R_alloc | apply Kd.R_drewN | apply Kd.R_drew)); exact HO341.out)) k_ hk, Kd.freshB (g := gb288) (o := .cells #[.string m.f0, .string m.f1] 37 (0, 0)) (by (with_reducible repeat (first | refine blk_drewN ?_ _ | refine blk_drew ?_ | refine blk_alloc ?_ _)); exact BK288.out) k_ hk⟩))
                  (case aO => exact (by (with_reducible repeat (first | apply Kd.R_alloc | apply Kd.R_drewN | apply Kd.R_drew)); exact HO338.out))
                  (case aS => exact (below_size (by repeat (first | (with_reducible first | exact HB.out | apply below_alloc | apply pw_below_drewN | apply below_drew1 | refine below_set ?_ GE288.out) | exact HB.out))))
                  (case aL => have := LMc111.out; omega)
                  intro v343 w166 ho hb hg hat
                  rw [← Ny342.out] at ho
                  have n0_ := Aside0.mk (Kd.R_over' (by (with_reducible repeat (first | apply Kd.R_alloc | apply Kd.R_drewN | apply Kd.R_drew)); exact HO_12.out) (Kd.R_typed (by (with_reducible repeat (first | apply Kd.R_alloc | apply Kd.R_drewN | apply Kd.R_drew)); exact HO338.out)) (by decide) hg)
                  have n1_ := Aside0.mk (Kd.R_over' (by (with_reducible repeat (first | apply Kd.R_alloc | apply Kd.R_drewN | apply Kd.R_drew)); exact HO_14.out) (Kd.R_typed (by (with_reducible repeat (first | apply Kd.R_alloc | apply Kd.R_drewN | apply Kd.R_drew)); exact HO338.out)) (by decide) hg)
                  have n2_ := Aside0.mk (blk_grown (g := gb288) (o := .cells #[.string m.f0, .string m.f1] 37 (0, 0)) (by (with_reducible repeat (first | refine blk_drewN ?_ _ | refine blk_drew ?_ | refine blk_alloc ?_ _)); exact BK288.out) hg (Kd.R_away HO338.out (fun _ hk => hk.2)))
                  have n3_ := Aside0.mk (Kd.R_after (ok := (fun k_ => k_ ≠ gb288)) (by (with_reducible repeat (first | apply Kd.R_alloc | apply Kd.R_drewN | apply Kd.R_drew)); exact Kd.R_mono HO341.out (fun _ hk => ⟨hk.2, hk.1⟩)) hg hat)
                  have n4_ := Aside0.mk (hb)
                  have n5_ := Aside0.mk (ho)
                  clear HO_12
                  clear HO_14
                  clear BK288
                  clear HO341
                  clear HB
                  clear HO338
                  have HO_12 := n0_
                  have HO_14 := n1_
                  have BK288 := n2_
                  have HO341 := n3_
                  have HB := n4_
                  have HO344 := n5_
                  clear n0_ n1_ n2_ n3_ n4_ n5_
                  clear ho hb hg hat
                  obtain ⟨Ao168, co168, eo168⟩ := Kd.R_slice HO344.out
                  (first | subst eo168 | (injection eo168 with f1_ f2_ f3_; have f4_ := f1_.symm; have f5_ := f3_.symm; clear f1_ f2_ f3_; subst f4_; subst f5_))
                  refine hK.out _ _ ⟨(blk_cell BK288.out 0).trans rfl, (blk_cell BK288.out 1).trans rfl⟩ (fun hHeld => ?_)
                  clear hK K
                  refine norm_ (a' := ?_) ?_ ?_
                  rotate_left
                  · show Act.put _ (some 171) _ = _
                    simp only [Act.put, List.setIfInBounds_toArray, List.set_cons_zero, List.set_cons_succ, i64_w, i32_w]
                    rfl
                  refine one_ (i := 6) (N := some 172) #[true, true, true, true, true, true, true, false] rfl rfl (one_of HT_.out (by kernel_rfl)) (by decide) (fun K hK => ?_)
                  refine goes_ Tryd.func20 (by kernel_rfl) rfl #[.slice Ao168 y342.length co168] (by rfl) rfl rfl (by (try simp only [List.map_toArray, List.map_cons, List.map_nil]); first | done | rfl | (simp only [List.length_drop, List.length_take]; rfl)) ?_
                  with_reducible refine (msgid_Refs.calls k _ _ y342 M _ ?side1 ?side2 A112.out).mono ?_
                  (case side1 => repeat (first | exact (Kd.R_reads' HO344.out).2.2 | (with_reducible refine Kd.C_alloc ?_ _) | (with_reducible refine Kd.C_drewN ?_ _) | (with_reducible refine Kd.C_drew ?_)))
                  (case side2 => exact (Kd.R_reads' HO344.out).2.1)
                  rintro e w169 ⟨v346, rfl, ho0, hb⟩
                  refine ⟨_, rfl, ?_⟩
                  have n0_ := Aside0.mk (Kd.R_elder' (by (with_reducible repeat (first | apply Kd.R_alloc | apply Kd.R_drewN | apply Kd.R_drew)); exact HO_12.out) (Kd.R_base ho0) hb)
                  have n1_ := Aside0.mk (Kd.R_elder' (by (with_reducible repeat (first | apply Kd.R_alloc | apply Kd.R_drewN | apply Kd.R_drew)); exact HO_14.out) (Kd.R_base ho0) hb)
                  have n2_ := Aside0.mk (Kd.R_below (by (with_reducible repeat (first | apply Kd.R_alloc | apply Kd.R_drewN | apply Kd.R_drew)); exact HO341.out) hb)
                  have n3_ := Aside0.mk (Kd.R_below (by (with_reducible repeat (first | apply Kd.R_alloc | apply Kd.R_drewN | apply Kd.R_drew)); exact HO344.out) hb)
                  have n4_ := Aside0.mk (Kd.R_lower (Kd.R_new' (Kd.R_new' ho0 (Kd.R_lt (by (with_reducible repeat (first | apply Kd.R_alloc | apply Kd.R_drewN | apply Kd.R_drew)); exact HO_12.out))) (Kd.R_lt (by (with_reducible repeat (first | apply Kd.R_alloc | apply Kd.R_drewN | apply Kd.R_drew)); exact HO_14.out))) (below_size (by repeat (first | (with_reducible first | exact HB.out | apply below_alloc | apply pw_below_drewN | apply below_drew1 | refine below_set ?_ GE288.out) | exact HB.out))))
                  have n5_ := Aside0.mk (blk_below (g := gb288) (o := .cells #[.string m.f0, .string m.f1] 37 (0, 0)) (by (with_reducible repeat (first | refine blk_drewN ?_ _ | refine blk_drew ?_ | refine blk_alloc ?_ _)); exact BK288.out) hb)
                  have n6_ := Aside0.mk (below_step (by repeat (first | (with_reducible first | exact HB.out | apply below_alloc | apply pw_below_drewN | apply below_drew1 | refine below_set ?_ GE288.out) | exact HB.out)) hb)
                  clear HO_12
                  clear HO_14
                  clear HO341
                  clear HO344
                  clear BK288
                  clear HB
                  have HO_12 := n0_
                  have HO_14 := n1_
                  have HO341 := n2_
                  have HO344 := n3_
                  have HO347 := n4_
                  have BK288 := n5_
                  have HB := n6_
                  clear n0_ n1_ n2_ n3_ n4_ n5_ n6_
                  (try clear hb)
                  (try clear hb2)
                  (try clear hk)
                  (try clear hi)
                  (try clear ho0)
                  refine hK.out _ _ ⟨(blk_cell BK288.out 0).trans rfl, (blk_cell BK288.out 1).trans rfl⟩ (fun hHeld => ?_)
                  clear hK K
                  refine norm_ (a' := ?_) ?_ ?_
                  rotate_left
                  · show Act.put _ (some 172) _ = _
                    simp only [Act.put, List.setIfInBounds_toArray, List.set_cons_zero, List.set_cons_succ, i64_w, i32_w]
                    rfl
                  refine pure_ (i := 7) (N := some 16) (v := ?_) (a' := ?_) #[true, true, true, true, true, true, true, true] rfl rfl (any_of HT_.out (by kernel_rfl)) (fun _ _ _ h => h) (Or.inl ⟨by rfl, ?_⟩) ?_ ?_
                  rotate_left
                  · intro w'
                    go_simp
                    with_reducible rfl
                  rotate_left
                  · simp only [Act.put, List.setIfInBounds_toArray, List.set_cons_zero, List.set_cons_succ, i64_w, i32_w]
                    rfl
                  refine done_ (done_of HT_.out (by kernel_rfl)) ?_
                  obtain ⟨Am, cm, em⟩ := Kd.R_slice HO347.out
                  subst em
                  go_wp2
                  obtain rfl := HGB.out
                  go_meet
                  case rel => exact ⟨Am, cm, rfl, (Kd.R_reads' HO347.out).2.1, ⟨(Kd.R_reads' HO347.out).2.2⟩, ⟨(Kd.R_reads' HO_12.out).2.2⟩, HB⟩
                case rest =>
                  obtain ⟨Am, cm, rfl, hcm, HCm, HCl4, hB13⟩ := hcut
                  cases one with
                  | false =>
                    go_wp2_with (first
                      | (go_at_call 22; (with_reducible refine (header_Get.calls k _ _ l _ x false _ ?s1 hc HG1.out).mono ?_); (case s1 => exact Kd.C_below hr hB13.out); rintro e w13 ⟨rfl, hb13⟩; have hB14 := below_next hB13.out hb13)
                      | (go_at_call 22; (with_reducible refine (header_Get.calls k _ _ l _ y two _ ?s1 hc HG2.out).mono ?_); (case s1 => exact Kd.C_below hr hB14); rintro e w14 ⟨rfl, hb14⟩; have hB15 := below_next hB14 hb14))
                    go_ret
                    exact ⟨rfl, hB15⟩
                  | true =>
                    cases two with
                    | false =>
                      go_wp2_with (first
                        | (go_at_call 22; (with_reducible refine (header_Get.calls k _ _ l _ x true _ ?s1 hc HG1.out).mono ?_); (case s1 => exact Kd.C_below hr hB13.out); rintro e w13 ⟨rfl, hb13⟩; have hB14 := below_next hB13.out hb13)
                        | (go_at_call 22; (with_reducible refine (header_Get.calls k _ _ l _ y false _ ?s1 hc HG2.out).mono ?_); (case s1 => exact Kd.C_below hr hB14); rintro e w14 ⟨rfl, hb14⟩; have hB15 := below_next hB14 hb14))
                      go_ret
                      exact ⟨rfl, hB15⟩
                    | true =>
                      have hS := Aside0.mk (HM.out rfl rfl)
                      go_wp2_with (first
                        | (go_at_call 22; (with_reducible refine (header_Get.calls k _ _ l _ x true _ ?s1 hc HG1.out).mono ?_); (case s1 => exact Kd.C_below hr hB13.out); rintro e w13 ⟨rfl, hb13⟩; have hB14 := below_next hB13.out hb13)
                        | (go_at_call 22; (with_reducible refine (header_Get.calls k _ _ l _ y true _ ?s1 hc HG2.out).mono ?_); (case s1 => exact Kd.C_below hr hB14); rintro e w14 ⟨rfl, hb14⟩; have hB15 := below_next hB14 hb14; have hbb := below_next hb13 hb14)
                        | (go_at_call 17; (with_reducible refine (missiveref09_SameTexts.calls k _ _ L _ _ M true _ ?s1 hcl ?s2 hcm hS.out).mono ?_); (case s1 => exact Kd.C_below HCl4.out hbb); (case s2 => exact Kd.C_below HCm.out hbb); rintro e w15 ⟨rfl, hd15⟩; have hB16 := below_next hB15 hd15.below))
                      go_ret
                      exact ⟨rfl, hB16⟩
end Go.Proofs.YtlldpjcnkckclaaDoor.PA
