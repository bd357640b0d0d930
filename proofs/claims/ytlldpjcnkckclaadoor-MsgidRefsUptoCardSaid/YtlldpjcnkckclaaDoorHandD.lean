/- For msgid.Refs: an append onto a slice that is either cut to its capacity or a new row of the call's own; the pure function. -/
import Derived.Test.YtlldpjcnkckclaaDoorHandC
import Derived.RegionTactic
namespace Go.Proofs.YtlldpjcnkckclaaDoor.Hand
open Go.RowKit Go.Maps Go.Proofs.YtlldpjcnkckclaaDoorW.PrintWords
set_option linter.unusedVariables false
set_option linter.unusedSimpArgs false

/-- A slice of strings that an append may write into only where it lies in a block from base on. -/
def Row (w : World) (base : Nat) (v : Value) (xs : List ByteArray) : Prop :=
  w.ownsRow base 9 1 v xs.length (xs.map Value.string) ∨ ∃ ad, v = .slice (some ad) xs.length xs.length ∧ Kd.C Kd.string w (some ad) xs.length xs

theorem Row.below {w w' : World} {base : Nat} {v : Value} {xs : List ByteArray} (h : Row w base v xs) (hb : Below w.heap.size w w') : Row w' base v xs := by
  rcases h with h | ⟨ad, e, hC⟩
  · exact .inl (pw_own_below h hb)
  · exact .inr ⟨ad, e, Kd.C_below hC hb⟩
theorem Row.reads {w : World} {base : Nat} {v : Value} {xs : List ByteArray} (h : Row w base v xs) : ∃ A c, v = .slice A xs.length c ∧ xs.length ≤ c ∧ Kd.C Kd.string w A xs.length xs := by
  rcases h with h | ⟨ad, e, hC⟩
  · exact Kd.R_reads (Kd.R_of_own (enc := Value.string) (h1 := fun _ => rfl) (ok := fun _ => True) h (fun _ _ => trivial))
  · exact ⟨_, _, e, Nat.le_refl _, hC⟩

/-- What is appended: readable, or nothing. -/
def News (w : World) (A : Option Addr) (ys : List ByteArray) : Prop := Kd.C Kd.string w A ys.length ys
theorem News.cells {w : World} {ad : Addr} {ys : List ByteArray} (h : News w (some ad) ys) : ∀ j u, (ys.map Value.string)[j]? = some u → w.cell? (ad.add j) = some u := by
  intro j u hj
  have hl : j < ys.length := by
    have := (List.getElem?_eq_some_iff.1 hj).1
    simpa using this
  obtain ⟨ad', e, hc⟩ := (Kd.reads_of_C (enc := Value.string) (d := ByteArray.empty) (h1 := fun _ => rfl) h).2.2 (by omega)
  injection e with e
  subst e
  rw [hc j hl]
  simp [List.getElem?_eq_getElem hl] at hj
  simp [List.getD, List.getElem?_eq_getElem hl, hj]

theorem run_append_row {w : World} {base : Nat} {v : Value} {xs ys : List ByteArray} (ty : TypeId) (hv : Row w base v xs) (A : Option Addr) (c : Nat) (hn : News w A ys) (hA : A = none → ys = [])
    (hlen : (xs.length + ys.length) * 16 ≤ 140737488355328) (hbase : base ≤ w.heap.size) :
    ∃ v' w', (Builtin.append_ #[31, 31] ty #[v, .slice A ys.length c]).run Tryd.prog w = .ok v' w' ∧ Row w' base v' (xs ++ ys) ∧ Below base w w' := by
  obtain ⟨i0, hi, hz0, hz1, hz2⟩ := info_parts Tryd.info9
  rcases hv with hown | ⟨ad, rfl, hC⟩
  · cases A with
    | none =>
      have hy := hA rfl
      subst hy
      refine ⟨v, w, ?_, .inl (by simpa using hown), Below.refl _ _⟩
      rcases hown.2 with ⟨rfl, h0⟩ | ⟨g, cap, cur, rfl, _, _, hnc, _⟩
      · simp [Builtin.append_, run_underlying Tryd.underlying31, sizeOf, typeInfo, hi, Builtin.lenOf, Builtin.firstCells]
      · simp [Builtin.append_, run_underlying Tryd.underlying31, sizeOf, typeInfo, hi, Builtin.lenOf, Builtin.firstCells, hnc, storeCells]
    | some ad =>
      obtain ⟨v', w', hr, ho, hg, _⟩ := run_append_own (P := Tryd.prog) w base 31 ty 9 i0 (.string ⟨#[]⟩) 1 16 Tryd.underlying31 hi hz0 hz1 hz2 rfl (by omega) v xs.length (xs.map Value.string) hown ad ys.length c (ys.map Value.string)
        (by simp) (News.cells hn) (strs_oneCell ys) (by unfold maxLen; omega) hlen hbase
      exact ⟨v', w', hr, .inl (by simpa using ho), (Below.refl base w).grown hg hbase (fun k hk => (hown.lt k hk).1)⟩
  · have hx : ∀ j u, (xs.map Value.string)[j]? = some u → w.cell? (ad.add j) = some u := News.cells (ys := xs) hC
    cases A with
    | none =>
      have hy := hA rfl
      subst hy
      refine ⟨.slice (some ad) xs.length xs.length, w, ?_, .inr ⟨ad, by simp, by simpa using hC⟩, Below.refl _ _⟩
      simp [Builtin.append_, run_underlying Tryd.underlying31, sizeOf, typeInfo, hi, hz1, Builtin.lenOf, Builtin.firstCells, storeCells]
    | some an =>
      rcases Nat.eq_zero_or_pos ys.length with h0 | h0
      · have hy : ys = [] := List.eq_nil_of_length_eq_zero h0
        subst hy
        refine ⟨.slice (some ad) xs.length xs.length, w, ?_, .inr ⟨ad, by simp, by simpa using hC⟩, Below.refl _ _⟩
        have hl : ∀ (x : Addr), (loadCells x 0).run Tryd.prog w = .ok #[] w := fun x => by simpa using run_loadCells_list (P := Tryd.prog) w x [] (by simp)
        simp [Builtin.append_, run_underlying Tryd.underlying31, sizeOf, typeInfo, hi, hz1, Builtin.lenOf, Builtin.firstCells, storeCells, hl]
      · have hr := run_append_grow (P := Tryd.prog) w 31 ty 9 i0 (.string ⟨#[]⟩) Tryd.underlying31 hi hz0 ad xs.length xs.length (xs.map Value.string) (by simp [hz1]) hx an ys.length c (ys.map Value.string) (by simp [hz1]) (News.cells hn)
          (by omega) (by omega) (by rw [hz2]; exact growslice_fits (by omega) hlen)
        refine ⟨_, _, hr, .inl ⟨by simp, .inr ⟨w.heap.size, _, _, by rw [List.length_append], hbase, heap_alloc_new w.drew _, ?_, ?_, ?_, ?_⟩⟩, ((Below.refl base w).drew).alloc hbase _⟩
        · rw [List.length_append]
          exact grownCap_ge _ _ _ _
        · exact grownCap_le_maxLen _ _ _ _ (by unfold maxLen; omega)
        · have hge := grownCap_ge w (xs.length + ys.length) xs.length 9
          simp [size_zeroCells, Value.cells]
          omega
        · simp [List.take_append, ← List.map_append]

theorem step_append_row {ops : Array Oper} {o : Oper} {a : Act} {w : World} {K : Act → World → Prop} {Q : Exit → Act → World → Prop} {E : Prop} (hgd : o.guard = none) (s x : Operand)
    (ho : o.op = .call { callee := .builtin .append, args := #[s, x], argTypes := #[31, 31] })
    (base : Nat) (v : Value) (xs ys : List ByteArray) (hs : a.eval s = v) (hv : Row w base v xs) (A : Option Addr) (c n : Nat) (hx : a.eval x = .slice A n c) (hny : n = ys.length) (hn : News w A ys) (hA : A = none → ys = [])
    (hlen : (xs.length + ys.length) * 16 ≤ 140737488355328) (hbase : base ≤ w.heap.size)
    (h : ∀ v' w', Row w' base v' (xs ++ ys) → Below base w w' → K (a.put o.dst v') w') :
    if Region.wanted o (yielded ops a.tmps) = true then Oper.wp Tryd.prog o a w K Q else E := by
  have hw : Region.wanted o (yielded ops a.tmps) = true := by simp [Region.wanted, hgd]
  rw [if_pos hw]
  subst hny
  obtain ⟨v', w', hrun, h2, h3⟩ := run_append_row o.type hv A c hn hA hlen hbase
  unfold Oper.wp execOp
  simp only [ho, resolve, invoke, builtin, Sem.run_bind, Sem.run_pure, Result.andThen_ok, List.map_toArray, List.map_cons, List.map_nil, hs, hx, hrun]
  exact h v' w' h2 h3

/-- The same, where the slice lies as it lay in an elder world and is cut to its capacity: the new row lies behind all that there is. -/
theorem step_append_first {ops : Array Oper} {o : Oper} {a : Act} {w : World} {K : Act → World → Prop} {Q : Exit → Act → World → Prop} {E : Prop} (W : World) (hgd : o.guard = none) (s x : Operand)
    (ho : o.op = .call { callee := .builtin .append, args := #[s, x], argTypes := #[31, 31] })
    (v : Value) (xs ys : List ByteArray) (hs : a.eval s = v) (hv : ∀ base, Row W base v xs) (A : Option Addr) (c n : Nat) (hx : a.eval x = .slice A n c) (hny : n = ys.length) (hn : News W A ys) (hA : A = none → ys = [])
    (hlen : (xs.length + ys.length) * 16 ≤ 140737488355328) (hW : Below W.heap.size W w)
    (h : ∀ v' w', Row w' w.heap.size v' (xs ++ ys) → Below w.heap.size w w' → K (a.put o.dst v') w') :
    if Region.wanted o (yielded ops a.tmps) = true then Oper.wp Tryd.prog o a w K Q else E :=
  step_append_row hgd s x ho w.heap.size v xs ys hs ((hv _).below hW) A c n hx hny (Kd.C_below hn hW) hA hlen (Nat.le_refl _) h

theorem news_one {w : World} {g : Nat} {x : ByteArray} (h : w.cell? ⟨g, 0, none⟩ = some (.string x)) : News w (some ⟨g, 0, none⟩) [x] := by
  refine Kd.C_of_reads (enc := Value.string) (d := ByteArray.empty) (h1 := fun _ => rfl) ⟨rfl, by simp, fun _ => ⟨_, rfl, fun j hj => ?_⟩⟩
  obtain rfl : j = 0 := by simp at hj; exact hj
  simpa [Addr.add, List.getD] using h
theorem news_take {w : World} {A : Option Addr} {xs : List ByteArray} (h : News w A xs) (n : Nat) (hn : n ≤ xs.length) : Kd.C Kd.string w A (xs.take n).length (xs.take n) := by
  have h1 := Kd.reads_of_C (enc := Value.string) (d := ByteArray.empty) (h1 := fun _ => rfl) h
  refine Kd.C_of_reads (enc := Value.string) (d := ByteArray.empty) (h1 := fun _ => rfl) ⟨rfl, by have := h1.2.1; rw [List.length_take]; omega, fun h0 => ?_⟩
  have hl : (xs.take n).length = n := by rw [List.length_take]; omega
  obtain ⟨ad, e, hc⟩ := h1.2.2 (by omega)
  refine ⟨ad, e, fun j hj => ?_⟩
  rw [hc j (by omega)]
  have hjn : j < n := by omega
  simp [List.getD, List.getElem?_take, hjn]
theorem row_cut {w : World} {ad : Addr} {xs : List ByteArray} (h : News w (some ad) xs) (h0 : 0 < xs.length) (base : Nat) : Row w base (.slice (some ad) (xs.length - 1) (xs.length - 1)) xs.dropLast := by
  refine .inr ⟨ad, by rw [List.length_dropLast], ?_⟩
  rw [List.dropLast_eq_take]
  exact news_take h _ (by omega)

/-- x[:i:i], x a slice of strings. -/
theorem run_slice3 (ad : Addr) (len cap : Nat) (i : Int) (h0 : 0 ≤ i) (h1 : i ≤ cap) (w : World) :
    (Instr.slice 31 (.slice (some ad) len cap) none (some (.int .i64 i)) (some (.int .i64 i))).run Tryd.prog w = .ok (.slice (some ad) i.toNat i.toNat) w := by
  obtain ⟨i0, hi, hz0, hz1, hz2⟩ := info_parts Tryd.info9
  have eh : (i.toNat : Int) = i := Int.toNat_of_nonneg h0
  have ha : ad.add 0 = ad := by simp [Addr.add]
  simp [Instr.slice, run_underlying Tryd.underlying31, Instr.sliceBounds, run_sliceBound, h0, h1, eh, sizeOf, typeInfo, hi, ha]

/-! ### what Refs computes -/
def others (a b : List ByteArray) : List ByteArray := b.filter fun x => !isIn a x
def allOf (a b : List ByteArray) : List ByteArray := match a.getLast? with
  | some x => a.dropLast ++ others a b ++ [x]
  | none => others a b
def smallStrs (l : List ByteArray) : Bool := decide (l.length ≤ 1073741824) && l.all (fun s => decide (s.size ≤ 140737488355328))
def refsF (a b : List ByteArray) : Option (List ByteArray) := if smallStrs a = true ∧ smallStrs b = true then lastOnesF (allOf a b) else none
end Go.Proofs.YtlldpjcnkckclaaDoor.Hand
