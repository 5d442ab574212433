/- Words of this session beside the print's: events that the print does not take. -/
import Derived.Test.YtohhpobgmhoeoaaWMore
import Derived.Lib.SlBytesConst
namespace Go.Proofs.YtohhpobgmhoeoaaW.PrintWords.Kd
open Go.RowKit
section
variable {P : Program} {ops : Array Oper} {rest : List Oper} {o : Oper} {a : Act} {Q : Exit → Act → World → Prop} {α : Type}
/-- make([]T, 0, m): an empty row of the call's own. -/
theorem R_make0 (d : Kd α) {w0 W : World} (base e : Nat) (hgd : o.guard = none) {N : Tmp} (_hd : o.dst = some N) (t : TypeId) (x y : Operand) (ho : o.op = .makeSlice t x y) (m : Int) (hx : a.eval x = .int .i64 0) (hy : a.eval y = .int .i64 m)
    (ht : P.underlying t = some (.slice e)) (z : Value) (bytes : Nat) (hinfo : (P.info? e).map (fun i => (i.zero, i.size, i.bytes)) = some (some z, d.sz, bytes)) (_hz : z.cells.size = d.sz) (_hs0 : 0 < d.sz) (hb0 : 0 < bytes)
    (z0 : α) {ok okp : Nat → Prop} (_hzero : d.M W base okp z0 z.cells.toList) (_hok : ∀ k, okp k → ok k) (hfresh : ok W.heap.size) (h0 : 0 ≤ m) (hl : m.toNat * bytes ≤ 281474976710656) (HB : Below base w0 W) (hbase : base ≤ W.heap.size)
    (h : ∀ v1 w1, d.R e w1 base ok v1 [] → Below base w0 w1 → W.grownBy w1 none → (∃ b, v1.ownBlock = some b ∧ W.heap.size ≤ b) → wpList P ops Q rest (a.put o.dst v1) w1) : wpList P ops Q (o :: rest) a W := by
  obtain ⟨m, rfl⟩ := Int.eq_ofNat_of_zero_le h0
  simp only [Int.toNat_natCast] at hl
  obtain ⟨i0, hi, hzz⟩ := Option.map_eq_some_iff.1 hinfo
  simp only [Prod.mk.injEq] at hzz
  obtain ⟨hz0, hz1, hz2⟩ := hzz
  have hm : m ≤ 281474976710656 := Nat.le_trans (Nat.le_mul_of_pos_right _ hb0) hl
  have hr := run_make (P := P) W t e i0 z ht hi hz0 .i64 .i64 (0 : Int) (m : Int) (by omega) (by omega)
    (by
      have h3 : ((i0.bytes * m : Nat) : Int) ≤ 281474976710656 := by rw [hz2, Nat.mul_comm]; omega
      rwa [Int.natCast_mul] at h3) (by omega)
  simp only [Int.toNat_natCast] at hr
  rw [hz1] at hr
  refine event_run (v := .slice (some ⟨W.heap.size, 0, none⟩) 0 m) hgd (w1 := W.alloc (.cells (madeCells z.cells (m * d.sz)) e)) ?_ (h _ _ ⟨fun k hk => ?_, [], ?_, Reps.none _ _⟩ (HB.alloc hbase _) (World.grownBy_alloc W _ none) ⟨W.heap.size, by simp [Value.ownBlock], Nat.le_refl _⟩)
  · simp [execOp, ho, hx, hy, hr]
  · have : W.heap.size = k := by simpa [Value.ownBlock] using hk
    subst this
    exact hfresh
  · refine ⟨by simp, .inr ⟨W.heap.size, m, _, rfl, hbase, heap_alloc_new W _, Nat.zero_le _, by simp [maxLen]; omega, by simp [size_madeCells], by simp⟩⟩
/-- []byte("..") of a constant: the literal's row, and the mark behind it; it is only read. -/
theorem R_const {w0 W : World} (base e : Nat) (hgd : o.guard = none) {N : Tmp} (_hd : o.dst = some N) (t : TypeId) (x : Operand) (ho : o.op = .convert t t x) (zs : List Int) (Cs : Array Value) (hx : a.eval x = .slice (some ⟨W.heap.size, 0, none⟩) zs.length zs.length)
    (ht : P.underlying t = some (.slice e)) (he : P.underlying e = some (.int .u8)) (hC : Cs = (zs.map (Value.int .u8)).toArray) (hlen : zs.length ≤ 9223372036854775807) (HB : Below base w0 W) (hbase : base ≤ W.heap.size)
    (h : ∀ A c w1, (Kd.int .u8).C w1 A zs.length zs → zs.length ≤ c → Below base w0 w1 → W.grownBy w1 none → wpList P ops Q rest (a.put o.dst (.slice A zs.length c)) w1) : wpList P ops Q (o :: rest) a (W.alloc (.cells Cs e)) := by
  refine event_run (v := .slice (some ⟨W.heap.size, 0, none⟩) zs.length zs.length) hgd (w1 := W.alloc (.cells Cs e (Cs.size, Cs.size + 1))) ?_ (h _ _ _ (C_of_reads (d := (0 : Int)) (h1 := fun _ => rfl) ⟨rfl, hlen, fun _ => ⟨_, rfl, fun i hi => ?_⟩⟩) (Nat.le_refl _) (HB.alloc hbase _) (World.grownBy_alloc W _ none))
  · simp [execOp, ho, hx, Lib.run_convert_bytes_const W t e Cs zs.length zs.length ht he]
  · subst hC
    have hh := heap_alloc_new W (.cells (zs.map (Value.int .u8)).toArray e ((zs.map (Value.int .u8)).toArray.size, (zs.map (Value.int .u8)).toArray.size + 1))
    by_cases h0 : i = 0
    · subst h0; simp only [World.cell?, Addr.add, if_true]; rw [hh]; simp [hi]
    · simp only [World.cell?, Addr.add, if_neg h0]; rw [hh]; simp [hi]
end
end Go.Proofs.YtohhpobgmhoeoaaW.PrintWords.Kd
