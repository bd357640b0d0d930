/- digest.Sum (one block): by hand. Rotations, the block's schedule, the 64 rounds, the padding. -/
import Derived.Test.YtlldpjcnkckclaaDoorHandA
import Derived.StillTailTactics
import Derived.Deep.QuietTactic
import Derived.Outline
namespace Go.Proofs.YtlldpjcnkckclaaDoor.Hand
open Go.RowKit Go.Proofs.YtlldpjcnkckclaaDoorW.PrintWords
set_option linter.unusedVariables false
set_option linter.unusedSimpArgs false

def rr2 (x : Int) : Int := Go.bits .or .u32 (x * 1073741824 % 4294967296) (x / 4)
theorem rot2 (x : Int) (w : World) : Calls Tryd.prog 43 #[.int .u32 x, .int .i64 (-2)] w fun e w' => e = .returned (.int .u32 (rr2 x)) ∧ w = w' := by
  have hk : Go.bits BinOp.and IntKind.u64 (IntKind.u64.wrap (-2)) 31 = 30 := by decide +kernel
  go_enter Tryd.func43, Tryd.ntmps43
  go_wp2
  go_ret
  exact ⟨rfl, rfl⟩
def rr6 (x : Int) : Int := Go.bits .or .u32 (x * 67108864 % 4294967296) (x / 64)
theorem rot6 (x : Int) (w : World) : Calls Tryd.prog 43 #[.int .u32 x, .int .i64 (-6)] w fun e w' => e = .returned (.int .u32 (rr6 x)) ∧ w = w' := by
  have hk : Go.bits BinOp.and IntKind.u64 (IntKind.u64.wrap (-6)) 31 = 26 := by decide +kernel
  go_enter Tryd.func43, Tryd.ntmps43
  go_wp2
  go_ret
  exact ⟨rfl, rfl⟩
def rr7 (x : Int) : Int := Go.bits .or .u32 (x * 33554432 % 4294967296) (x / 128)
theorem rot7 (x : Int) (w : World) : Calls Tryd.prog 43 #[.int .u32 x, .int .i64 (-7)] w fun e w' => e = .returned (.int .u32 (rr7 x)) ∧ w = w' := by
  have hk : Go.bits BinOp.and IntKind.u64 (IntKind.u64.wrap (-7)) 31 = 25 := by decide +kernel
  go_enter Tryd.func43, Tryd.ntmps43
  go_wp2
  go_ret
  exact ⟨rfl, rfl⟩
def rr11 (x : Int) : Int := Go.bits .or .u32 (x * 2097152 % 4294967296) (x / 2048)
theorem rot11 (x : Int) (w : World) : Calls Tryd.prog 43 #[.int .u32 x, .int .i64 (-11)] w fun e w' => e = .returned (.int .u32 (rr11 x)) ∧ w = w' := by
  have hk : Go.bits BinOp.and IntKind.u64 (IntKind.u64.wrap (-11)) 31 = 21 := by decide +kernel
  go_enter Tryd.func43, Tryd.ntmps43
  go_wp2
  go_ret
  exact ⟨rfl, rfl⟩
def rr13 (x : Int) : Int := Go.bits .or .u32 (x * 524288 % 4294967296) (x / 8192)
theorem rot13 (x : Int) (w : World) : Calls Tryd.prog 43 #[.int .u32 x, .int .i64 (-13)] w fun e w' => e = .returned (.int .u32 (rr13 x)) ∧ w = w' := by
  have hk : Go.bits BinOp.and IntKind.u64 (IntKind.u64.wrap (-13)) 31 = 19 := by decide +kernel
  go_enter Tryd.func43, Tryd.ntmps43
  go_wp2
  go_ret
  exact ⟨rfl, rfl⟩
def rr17 (x : Int) : Int := Go.bits .or .u32 (x * 32768 % 4294967296) (x / 131072)
theorem rot17 (x : Int) (w : World) : Calls Tryd.prog 43 #[.int .u32 x, .int .i64 (-17)] w fun e w' => e = .returned (.int .u32 (rr17 x)) ∧ w = w' := by
  have hk : Go.bits BinOp.and IntKind.u64 (IntKind.u64.wrap (-17)) 31 = 15 := by decide +kernel
  go_enter Tryd.func43, Tryd.ntmps43
  go_wp2
  go_ret
  exact ⟨rfl, rfl⟩
def rr18 (x : Int) : Int := Go.bits .or .u32 (x * 16384 % 4294967296) (x / 262144)
theorem rot18 (x : Int) (w : World) : Calls Tryd.prog 43 #[.int .u32 x, .int .i64 (-18)] w fun e w' => e = .returned (.int .u32 (rr18 x)) ∧ w = w' := by
  have hk : Go.bits BinOp.and IntKind.u64 (IntKind.u64.wrap (-18)) 31 = 14 := by decide +kernel
  go_enter Tryd.func43, Tryd.ntmps43
  go_wp2
  go_ret
  exact ⟨rfl, rfl⟩
def rr19 (x : Int) : Int := Go.bits .or .u32 (x * 8192 % 4294967296) (x / 524288)
theorem rot19 (x : Int) (w : World) : Calls Tryd.prog 43 #[.int .u32 x, .int .i64 (-19)] w fun e w' => e = .returned (.int .u32 (rr19 x)) ∧ w = w' := by
  have hk : Go.bits BinOp.and IntKind.u64 (IntKind.u64.wrap (-19)) 31 = 13 := by decide +kernel
  go_enter Tryd.func43, Tryd.ntmps43
  go_wp2
  go_ret
  exact ⟨rfl, rfl⟩
def rr22 (x : Int) : Int := Go.bits .or .u32 (x * 1024 % 4294967296) (x / 4194304)
theorem rot22 (x : Int) (w : World) : Calls Tryd.prog 43 #[.int .u32 x, .int .i64 (-22)] w fun e w' => e = .returned (.int .u32 (rr22 x)) ∧ w = w' := by
  have hk : Go.bits BinOp.and IntKind.u64 (IntKind.u64.wrap (-22)) 31 = 10 := by decide +kernel
  go_enter Tryd.func43, Tryd.ntmps43
  go_wp2
  go_ret
  exact ⟨rfl, rfl⟩
def rr25 (x : Int) : Int := Go.bits .or .u32 (x * 128 % 4294967296) (x / 33554432)
theorem rot25 (x : Int) (w : World) : Calls Tryd.prog 43 #[.int .u32 x, .int .i64 (-25)] w fun e w' => e = .returned (.int .u32 (rr25 x)) ∧ w = w' := by
  have hk : Go.bits BinOp.and IntKind.u64 (IntKind.u64.wrap (-25)) 31 = 7 := by decide +kernel
  go_enter Tryd.func43, Tryd.ntmps43
  go_wp2
  go_ret
  exact ⟨rfl, rfl⟩

def rrk (k x : Int) : Int := if k = -2 then rr2 x else if k = -6 then rr6 x else if k = -7 then rr7 x else if k = -11 then rr11 x else if k = -13 then rr13 x else if k = -17 then rr17 x else if k = -18 then rr18 x else if k = -19 then rr19 x else if k = -22 then rr22 x else if k = -25 then rr25 x else 0
theorem rot_any (x k : Int) (w : World) (hk : k = -2 ∨ k = -6 ∨ k = -7 ∨ k = -11 ∨ k = -13 ∨ k = -17 ∨ k = -18 ∨ k = -19 ∨ k = -22 ∨ k = -25) : Calls Tryd.prog 43 #[.int .u32 x, .int .i64 k] w fun e w' => e = .returned (.int .u32 (rrk k x)) ∧ w = w' := by
  rcases hk with rfl | rfl | rfl | rfl | rfl | rfl | rfl | rfl | rfl | rfl
  · exact rot2 x w
  · exact rot6 x w
  · exact rot7 x w
  · exact rot11 x w
  · exact rot13 x w
  · exact rot17 x w
  · exact rot18 x w
  · exact rot19 x w
  · exact rot22 x w
  · exact rot25 x w

/-! ### a block of 32-bit words -/
def WB (w : World) (g : Nat) (t : TypeId) (xs : List Int) : Prop := w.heap[g]? = some (.cells (xs.map (Value.int .u32)).toArray t (0, 0))
def rdn (xs : List Int) (j : Nat) : Int := xs.getD j 0
section
variable {w : World} {g : Nat} {t : TypeId} {xs : List Int}
theorem WB.lt (h : WB w g t xs) : g < w.heap.size := (Array.getElem?_eq_some_iff.1 h).1
theorem WB.cell (h : WB w g t xs) (j : Nat) (hj : j < xs.length) : w.cell? ⟨g, j, none⟩ = some (.int .u32 (rdn xs j)) := by
  rw [cell_of_row w g j _ t (0, 0) h]
  simp [rdn, List.getD, hj]
theorem WB.frozen (h : WB w g t xs) (j : Nat) : w.frozen? ⟨g, j, none⟩ = false := by
  unfold WB at h
  simp [World.frozen?, h]
theorem WB.drew (h : WB w g t xs) : WB w.drew g t xs := h
theorem WB.drewN (h : WB w g t xs) (n : Nat) : WB (w.drewN n) g t xs := by
  induction n with
  | zero => exact h
  | succ n ih => exact h
theorem WB.set_ (h : WB w g t xs) (j : Nat) (v : Int) : WB (w.setCell ⟨g, j, none⟩ (.int .u32 v)) g t (xs.set j v) := by
  unfold WB at h ⊢
  simp [World.setCell, Array.getElem?_modify, h, List.map_set]
theorem WB.far (h : WB w g t xs) {p : Addr} (hp : g ≠ p.block) (u : Value) : WB (w.setCell p u) g t xs := (Below.heap_setCell w p u g hp).trans h
theorem WB.alloc (h : WB w g t xs) (o : Obj) : WB (w.alloc o) g t xs := (Below.heap_alloc w o g h.lt).trans h
theorem WB.below {w' : World} (h : WB w g t xs) (hb : Below w.heap.size w w') : WB w' g t xs := (hb.block g h.lt).trans h
end

theorem grown_set {w wr : World} {S : Nat} (h : w.grownBy wr (some S)) (j : Nat) (v : Value) : w.grownBy (wr.setCell ⟨S, j, none⟩ v).drew (some S) :=
  ⟨h.os, h.tape, h.output, by simpa [World.setCell, World.drew] using h.size, fun i hi hne => by
    have := h.block i hi hne
    rw [← this]
    exact Below.heap_setCell wr ⟨S, j, none⟩ v i (fun e => hne (by rw [e]))⟩

/-! ### the schedule -/
def wl (blk : ByteArray) : Nat → List Int
  | 0 => List.replicate 64 0
  | n + 1 => (wl blk n).set (n / 4) (Go.bits .or .u32 (rdn (wl blk n) (n / 4) * 256 % 4294967296) (bt blk n % 4294967296))
theorem wl_length (blk : ByteArray) (n : Nat) : (wl blk n).length = 64 := by
  induction n with
  | zero => rfl
  | succ n ih => simp [wl, ih]
def s0 (x : Int) : Int := Go.bits .xor .u32 (Go.bits .xor .u32 (rrk (-7) x) (rrk (-18) x)) (x / 8)
def s1 (x : Int) : Int := Go.bits .xor .u32 (Go.bits .xor .u32 (rrk (-17) x) (rrk (-19) x)) (x / 1024)
def we (blk : ByteArray) : Nat → List Int
  | 0 => wl blk 64
  | k + 1 => if k < 16 then we blk k else (we blk k).set k ((rdn (we blk k) (k - 16) + s0 (rdn (we blk k) (k - 15)) + rdn (we blk k) (k - 7) + s1 (rdn (we blk k) (k - 2))) % 4294967296)
theorem we_length (blk : ByteArray) (n : Nat) : (we blk n).length = 64 := by
  induction n with
  | zero => exact wl_length blk 64
  | succ n ih =>
    simp only [we]
    split
    · exact ih
    · simp [ih]
theorem we_low (blk : ByteArray) : ∀ n, n ≤ 16 → we blk n = wl blk 64
  | 0, _ => rfl
  | n + 1, h => by
    simp only [we]
    rw [if_pos (by omega), we_low blk n (by omega)]
structure R8 where
  (a b c d e f g h : Int)
def R8.of (st : List Int) : R8 := ⟨rdn st 0, rdn st 1, rdn st 2, rdn st 3, rdn st 4, rdn st 5, rdn st 6, rdn st 7⟩
def KK : List Int := [1116352408, 1899447441, 3049323471, 3921009573, 961987163, 1508970993, 2453635748, 2870763221, 3624381080, 310598401, 607225278, 1426881987, 1925078388, 2162078206, 2614888103, 3248222580, 3835390401, 4022224774, 264347078, 604807628, 770255983, 1249150122, 1555081692, 1996064986, 2554220882, 2821834349, 2952996808, 3210313671, 3336571891, 3584528711, 113926993, 338241895, 666307205, 773529912, 1294757372, 1396182291, 1695183700, 1986661051, 2177026350, 2456956037, 2730485921, 2820302411, 3259730800, 3345764771, 3516065817, 3600352804, 4094571909, 275423344, 430227734, 506948616, 659060556, 883997877, 958139571, 1322822218, 1537002063, 1747873779, 1955562222, 2024104815, 2227730452, 2361852424, 2428436474, 2756734187, 3204031479, 3329325298]
def t1 (W : List Int) (n : Nat) (r : R8) : Int :=
  (r.h + Go.bits .xor .u32 (Go.bits .xor .u32 (rrk (-6) r.e) (rrk (-11) r.e)) (rrk (-25) r.e) +
    (Go.bits .xor .u32 (Go.bits .and .u32 r.e r.f) (Go.bits .and .u32 (Go.bits .xor .u32 (if IntKind.u32.signed = true then -1 else IntKind.u32.max) r.e) r.g) + rdn KK n + rdn W n)) % 4294967296
def t2 (r : R8) : Int :=
  (Go.bits .xor .u32 (Go.bits .xor .u32 (rrk (-2) r.a) (rrk (-13) r.a)) (rrk (-22) r.a) +
    Go.bits .xor .u32 (Go.bits .xor .u32 (Go.bits .and .u32 r.a r.b) (Go.bits .and .u32 r.a r.c)) (Go.bits .and .u32 r.b r.c)) % 4294967296
def step (W : List Int) (n : Nat) (r : R8) : R8 :=
  ⟨(t1 W n r + t2 r) % 4294967296, r.a, r.b, r.c, (r.d + t1 W n r) % 4294967296, r.e, r.f, r.g⟩
def rnd (W : List Int) : Nat → R8 → R8
  | 0, r => r
  | n + 1, r => step W n (rnd W n r)
def fin (st : List Int) (r : R8) : Nat → List Int
  | 0 => st
  | n + 1 => (fin st r n).set n ((rdn (fin st r n) n + rdn [r.a, r.b, r.c, r.d, r.e, r.f, r.g, r.h] n) % 4294967296)
theorem fin_length (st : List Int) (r : R8) (n : Nat) : (fin st r n).length = st.length := by
  induction n with
  | zero => rfl
  | succ n ih => simp [fin, ih]
def Laid (w : World) : Prop := 0 < w.heap.size ∧ ∀ j, j < 64 → w.cell? ⟨0, j, none⟩ = some (.int .u32 (rdn KK j))
set_option maxHeartbeats 2000000 in
set_option maxRecDepth 1000000 in
theorem process_calls (S : Nat) (st : List Int) (blk : ByteArray) (w : World) (hG : Laid w) (hst : WB w S 52 st) (hl : st.length = 8) (hb : blk.size = 64) :
    Calls Tryd.prog 34 #[.pointer (some ⟨S, 0, none⟩), .string blk] w fun e w' => e = .returned (.tuple #[]) ∧ WB w' S 52 (fin st (rnd (we blk 64) 64 (R8.of st)) 8) ∧ w.grownBy w' (some S) := by
  have hu63 := Tryd.underlying63
  go_enter Tryd.func34, Tryd.ntmps34
  go_wp2
  have h0 : WB (w.alloc (.cells (List.replicate 64 (Value.int .u32 0)).toArray 63)) w.heap.size 63 (wl blk 0) := by
    unfold WB
    rw [heap_alloc_new]
    rfl
  go_loopw [25] (fun i wr => ∃ m : Nat, m ≤ 16 ∧ i = .int .i64 m ∧ Hid (WB wr w.heap.size 63 (wl blk (4 * m))) ∧ Below w.heap.size w wr) (fun i _ => 16 - (intOf i).toNat)
  case atStart => exact ⟨0, Nat.zero_le _, rfl, h0, (Below.refl _ _).alloc (Nat.le_refl _) _⟩
  clear h0
  case round =>
    obtain ⟨m, hm, rfl, HW, hB⟩ := hrel
    by_cases hlt : m < 16
    · go_wp2
      obtain ⟨wo, rfl⟩ : ∃ wo : World, wo = wr := ⟨_, rfl⟩
      have hd : decide ((m : Int) < 16) = true := decide_eq_true (by omega)
      simp only [hd]
      go_loopw [28] (fun i wr => ∃ j : Nat, j ≤ 4 ∧ i = .int .i64 j ∧ Hid (WB wr w.heap.size 63 (wl blk (4 * m + j))) ∧ Below w.heap.size w wr) (fun i _ => 4 - (intOf i).toNat)
      case atStart => exact ⟨0, Nat.zero_le _, rfl, HW, hB⟩
      case round =>
        obtain ⟨j, hj, rfl, HW2, hB2⟩ := hrel
        by_cases hlt2 : j < 4
        · have hc := HW2.out.cell m (by rw [wl_length]; omega)
          have hf := HW2.out.frozen m
          have hbt : ((blk[4 * m + j]'(by omega)).toNat : Int) = bt blk (4 * m + j : Nat) := bt_at blk ((4 * m + j : Nat) : Int) (by omega)
          have hmul : IntKind.i64.wrap (4 * (m : Int)) = 4 * (m : Int) := IntWalk.i64_in _ (by omega)
          have hadd : IntKind.i64.wrap (4 * (m : Int) + (j : Int)) = 4 * (m : Int) + (j : Int) := IntWalk.i64_in _ (by omega)
          have htn : (4 * (m : Int) + (j : Int)).toNat = 4 * m + j := by omega
          have hi0 : (0 : Int) ≤ 4 * (m : Int) + (j : Int) := by omega
          have hi1 : 4 * (m : Int) + (j : Int) < 64 := by omega
          have hi2 : 4 * m + j < blk.size := by omega
          have hm0 : (0 : Int) ≤ (m : Int) := by omega
          have hm1 : (m : Int) < 64 := by omega
          go_wp2
          go_still_tail 14, (by kernel_rfl)
          go_wp2
          have h1 := (HW2.out.set_ m (Go.bits .or .u32 (rdn (wl blk (4 * m + j)) m * 256 % 4294967296) (bt blk (4 * m + j : Nat) % 4294967296))).drew
          have h2 : wl blk (4 * m + (j + 1)) = (wl blk (4 * m + j)).set m (Go.bits .or .u32 (rdn (wl blk (4 * m + j)) m * 256 % 4294967296) (bt blk (4 * m + j : Nat) % 4294967296)) := by
            rw [show 4 * m + (j + 1) = (4 * m + j) + 1 by omega, wl, show (4 * m + j) / 4 = m by omega]
          rw [← h2] at h1
          push_cast at h1
          have h1 := Lib.hid h1
          go_roundw
          case rel => exact ⟨j + 1, by omega, by push_cast; rfl, h1, (hB2.setCell (Nat.le_refl _) _).drew⟩
          case measure => simp [intOf]; omega
        · go_wp2
          obtain rfl : j = 4 := by omega
          go_roundw
          case rel => exact ⟨m + 1, by omega, by push_cast; rfl, HW2, hB2⟩
          case measure => simp [intOf]; omega
    · obtain rfl : m = 16 := by omega
      go_wp2
      have HWe : Hid (WB wr w.heap.size 63 (we blk 16)) := by rw [we_low blk 16 (Nat.le_refl _)]; exact HW
      clear HW
      obtain ⟨wo, rfl⟩ : ∃ wo : World, wo = wr := ⟨_, rfl⟩
      have e16 : ((16 : Nat) : Int) = 16 := rfl
      simp only [e16]
      go_loopw [7] (fun i wr => ∃ k : Nat, 16 ≤ k ∧ k ≤ 64 ∧ i = .int .i64 k ∧ Hid (WB wr w.heap.size 63 (we blk k)) ∧ Below w.heap.size w wr) (fun i _ => 64 - (intOf i).toNat)
      case atStart => exact ⟨16, Nat.le_refl _, by omega, rfl, HWe, hB⟩
      clear HWe hB
      case round =>
        obtain ⟨k, hk, hk2, rfl, HW, hB⟩ := hrel
        by_cases hlt : k < 64
        · have hw15 : IntKind.i64.wrap ((k : Int) - 15) = (k : Int) - 15 := IntWalk.i64_in _ (by omega)
          have hw2 : IntKind.i64.wrap ((k : Int) - 2) = (k : Int) - 2 := IntWalk.i64_in _ (by omega)
          have hw16 : IntKind.i64.wrap ((k : Int) - 16) = (k : Int) - 16 := IntWalk.i64_in _ (by omega)
          have hw7 : IntKind.i64.wrap ((k : Int) - 7) = (k : Int) - 7 := IntWalk.i64_in _ (by omega)
          have hn15 : ((k : Int) - 15).toNat = k - 15 := by omega
          have hn2 : ((k : Int) - 2).toNat = k - 2 := by omega
          have hn16 : ((k : Int) - 16).toNat = k - 16 := by omega
          have hn7 : ((k : Int) - 7).toNat = k - 7 := by omega
          have h15a : (15 : Int) ≤ (k : Int) := by omega
          have h2a : (2 : Int) ≤ (k : Int) := by omega
          have h16a : (16 : Int) ≤ (k : Int) := by omega
          have h7a : (7 : Int) ≤ (k : Int) := by omega
          have h15b : (k : Int) - 15 < 64 := by omega
          have h2b : (k : Int) - 2 < 64 := by omega
          have h16b : (k : Int) - 16 < 64 := by omega
          have h7b : (k : Int) - 7 < 64 := by omega
          have h0b : (k : Int) < 64 := by omega
          have h15c : (0 : Int) ≤ (k : Int) - 15 := by omega
          have h2c : (0 : Int) ≤ (k : Int) - 2 := by omega
          have h16c : (0 : Int) ≤ (k : Int) - 16 := by omega
          have h7c : (0 : Int) ≤ (k : Int) - 7 := by omega
          have h0c : (0 : Int) ≤ (k : Int) := by omega
          have hc15 := HW.out.cell (k - 15) (by rw [we_length]; omega)
          have hc2 := HW.out.cell (k - 2) (by rw [we_length]; omega)
          go_wp2
          go_quiet (fail)
          go_wp2_with (go_at_call 43; refine (rot_any _ _ _ (by decide)).mono ?_; rintro e w1 ⟨rfl, rfl⟩)
          have HWq := Lib.hid (HW.out.drewN nq)
          have hBq := pw_below_drewN hB nq
          generalize wr.drewN nq = wq at HWq hBq ⊢
          have hc16 := HWq.out.cell (k - 16) (by rw [we_length]; omega)
          have hc7 := HWq.out.cell (k - 7) (by rw [we_length]; omega)
          have hc0 := HWq.out.cell k (by rw [we_length]; omega)
          have hf0 := HWq.out.frozen k
          go_still_tail 15, (by kernel_rfl)
          go_wp2
          have h1 := (HWq.out.set_ k ((rdn (we blk k) (k - 16) + s0 (rdn (we blk k) (k - 15)) + rdn (we blk k) (k - 7) + s1 (rdn (we blk k) (k - 2))) % 4294967296)).drew
          have h2 : we blk (k + 1) = (we blk k).set k ((rdn (we blk k) (k - 16) + s0 (rdn (we blk k) (k - 15)) + rdn (we blk k) (k - 7) + s1 (rdn (we blk k) (k - 2))) % 4294967296) := by
            rw [we, if_neg (by omega)]
          rw [← h2] at h1
          have h1 := Lib.hid h1
          go_roundw
          case rel =>
            exact ⟨k + 1, by omega, by omega, by push_cast; rfl, h1, (hBq.setCell (Nat.le_refl _) _).drew⟩
          case measure => simp [intOf]; omega
        · obtain rfl : k = 64 := by omega
          have e64 : ((64 : Nat) : Int) = 64 := rfl
          simp only [e64]
          have hS := Lib.hid (hst.below hB)
          have hc0 := hS.out.cell 0 (by omega)
          have hc1 := hS.out.cell 1 (by omega)
          have hc2 := hS.out.cell 2 (by omega)
          have hc3 := hS.out.cell 3 (by omega)
          go_wp2
          go_quiet (fail)
          have HW1 := Lib.hid (HW.out.drewN nq)
          have HS1 := Lib.hid (hS.out.drewN nq)
          have hB1 := pw_below_drewN hB nq
          generalize wr.drewN nq = wq at HW1 HS1 hB1 ⊢
          clear hc0 hc1 hc2 hc3 HW hS hB
          have hc4 := HS1.out.cell 4 (by omega)
          have hc5 := HS1.out.cell 5 (by omega)
          have hc6 := HS1.out.cell 6 (by omega)
          have hc7 := HS1.out.cell 7 (by omega)
          go_wp2
          go_quiet (fail)
          have HW := Lib.hid (HW1.out.drewN nq)
          have HS := Lib.hid (HS1.out.drewN nq)
          have hB := pw_below_drewN hB1 nq
          generalize wq.drewN nq = wr at HW HS hB ⊢
          clear hc4 hc5 hc6 hc7 HW1 HS1 hB1
          obtain ⟨hG0, hG⟩ := hG
          go_wp2
          obtain ⟨wo, rfl⟩ : ∃ wo : World, wo = wr := ⟨_, rfl⟩
          go_loopw [122, 12, 13, 14, 15, 16, 17, 18, 19] (fun i a b c d e f g h wr => ∃ n : Nat, n ≤ 64 ∧ i = .int .i64 n ∧
              a = .int .u32 (rnd (we blk 64) n (R8.of st)).a ∧ b = .int .u32 (rnd (we blk 64) n (R8.of st)).b ∧ c = .int .u32 (rnd (we blk 64) n (R8.of st)).c ∧ d = .int .u32 (rnd (we blk 64) n (R8.of st)).d ∧
              e = .int .u32 (rnd (we blk 64) n (R8.of st)).e ∧ f = .int .u32 (rnd (we blk 64) n (R8.of st)).f ∧ g = .int .u32 (rnd (we blk 64) n (R8.of st)).g ∧ h = .int .u32 (rnd (we blk 64) n (R8.of st)).h ∧
              Hid (WB wr w.heap.size 63 (we blk 64)) ∧ Hid (WB wr S 52 st) ∧ Below w.heap.size w wr) (fun i _ _ _ _ _ _ _ _ _ => 64 - (intOf i).toNat)
          case atStart => exact ⟨0, Nat.zero_le _, rfl, rfl, rfl, rfl, rfl, rfl, rfl, rfl, rfl, HW, HS, hB⟩
          clear HW HS hB
          case round =>
            obtain ⟨n, hn, rfl, rfl, rfl, rfl, rfl, rfl, rfl, rfl, rfl, HW, HS, hB⟩ := hrel
            generalize hr : rnd (we blk 64) n (R8.of st) = r
            by_cases hlt : n < 64
            · have hc0 := HW.out.cell n (by rw [we_length]; omega)
              have hg0 := hB.cell (Nat.lt_of_lt_of_eq hG0 rfl) |>.trans (hG n hlt)
              have h0c : (0 : Int) ≤ (n : Int) := by omega
              have h0b : (n : Int) < 64 := by omega
              go_wp2_with (go_at_call 43; refine (rot_any _ _ _ (by decide)).mono ?_; rintro e w1 ⟨rfl, rfl⟩)
              go_quiet (fail)
              have HW1 := Lib.hid (HW.out.drewN nq)
              have HS1 := Lib.hid (HS.out.drewN nq)
              have hB1 := pw_below_drewN hB nq
              generalize wr.drewN nq = wq at HW1 HS1 hB1 ⊢
              go_wp2_with (go_at_call 43; refine (rot_any _ _ _ (by decide)).mono ?_; rintro e w1 ⟨rfl, rfl⟩)
              go_roundw
              case rel =>
                refine ⟨n + 1, by omega, by push_cast; rfl, ?_, ?_, ?_, ?_, ?_, ?_, ?_, ?_, HW1, HS1, hB1⟩ <;> simp only [rnd, step, hr]
                · congr 1
                · congr 1
              case measure => simp [intOf]; omega
            · obtain rfl : n = 64 := by omega
              simp only [e64]
              go_wp2
              have hgr : w.grownBy wr (some S) := grown_of_below hB (some S)
              clear hB HW
              obtain ⟨wo, rfl⟩ : ∃ wo : World, wo = wr := ⟨_, rfl⟩
              go_loopw [196] (fun i wr => ∃ n : Nat, n ≤ 8 ∧ i = .int .i64 n ∧ Hid (WB wr S 52 (fin st r n)) ∧ w.grownBy wr (some S)) (fun i _ => 8 - (intOf i).toNat)
              case atStart => exact ⟨0, Nat.zero_le _, rfl, HS, hgr⟩
              clear HS hgr
              case round =>
                obtain ⟨n, hn, rfl, HS, hgr⟩ := hrel
                by_cases hlt : n < 8
                · have hc0 := HS.out.cell n (by rw [fin_length]; omega)
                  have hf0 := HS.out.frozen n
                  have h0c : (0 : Int) ≤ (n : Int) := by omega
                  have h0b : (n : Int) < 8 := by omega
                  have hx : (#[Value.int .u32 r.a, .int .u32 r.b, .int .u32 r.c, .int .u32 r.d, .int .u32 r.e, .int .u32 r.f, .int .u32 r.g, .int .u32 r.h] : Array Value)[n]? = some (.int .u32 (rdn [r.a, r.b, r.c, r.d, r.e, r.f, r.g, r.h] n)) := by
                    rcases (by omega : n = 0 ∨ n = 1 ∨ n = 2 ∨ n = 3 ∨ n = 4 ∨ n = 5 ∨ n = 6 ∨ n = 7) with rfl | rfl | rfl | rfl | rfl | rfl | rfl | rfl <;> rfl
                  have hix : ∀ W, Sem.run Tryd.prog (Instr.index 51 (Value.agg #[Value.int .u32 r.a, .int .u32 r.b, .int .u32 r.c, .int .u32 r.d, .int .u32 r.e, .int .u32 r.f, .int .u32 r.g, .int .u32 r.h]) (.int .i64 n)) W = .ok (.int .u32 (rdn [r.a, r.b, r.c, r.d, r.e, r.f, r.g, r.h] n)) W := by
                    intro W
                    rcases (by omega : n = 0 ∨ n = 1 ∨ n = 2 ∨ n = 3 ∨ n = 4 ∨ n = 5 ∨ n = 6 ∨ n = 7) with rfl | rfl | rfl | rfl | rfl | rfl | rfl | rfl <;> kernel_rfl
                  go_wp2
                  go_still_tail 9, (by kernel_rfl)
                  go_wp2
                  have h1 := Lib.hid (HS.out.set_ n ((rdn (fin st r n) n + rdn [r.a, r.b, r.c, r.d, r.e, r.f, r.g, r.h] n) % 4294967296)).drew
                  have h2 : w.grownBy (wr.setCell ⟨S, n, none⟩ (.int .u32 ((rdn (fin st r n) n + rdn [r.a, r.b, r.c, r.d, r.e, r.f, r.g, r.h] n) % 4294967296))).drew (some S) := grown_set hgr _ _
                  go_roundw
                  case rel => exact ⟨n + 1, by omega, by push_cast; rfl, h1, h2⟩
                  case measure => simp [intOf]; omega
                · obtain rfl : n = 8 := by omega
                  go_wp2
                  go_end0
                  exact ⟨rfl, by rw [hr]; exact HS.out, hgr⟩
end Go.Proofs.YtlldpjcnkckclaaDoor.Hand
