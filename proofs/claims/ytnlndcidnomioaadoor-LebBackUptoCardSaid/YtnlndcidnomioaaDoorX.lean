/- Words of this session beside the print's: events that the print does not take. -/
import Derived.Test.YtnlndcidnomioaaDoorWMore
import Derived.Lib.SlBytesConst
import Derived.Lib.BitFns
import Derived.Deep.Light
import Derived.Laws.Externs
import Derived.Lib.SliceRun
namespace Go.Proofs.YtnlndcidnomioaaDoorW.PrintWords.Kd
open Go.RowKit
section
variable {P : Program} {ops : Array Oper} {rest : List Oper} {o : Oper} {a : Act} {Q : Exit → Act → World → Prop} {α : Type}
/-- make([]T, 0, m): an empty row of the call's own. -/
theorem R_make0 (d : Kd α) {w0 W : World} (base e : Nat) (hgd : o.guard = none) {N : Tmp} (_hd : o.dst = some N) (t : TypeId) (x y : Operand) (ho : o.op = .makeSlice t x y) (m : Int) (hx : a.eval x = .int .i64 0) (hy : a.eval y = .int .i64 m)
    (ht : P.underlying t = some (.slice e)) (z : Value) (bytes : Nat) (hinfo : (P.info? e).map (fun i => (i.zero, i.size, i.bytes)) = some (some z, d.sz, bytes)) (_hz : z.cells.size = d.sz) (_hs0 : 0 < d.sz) (hb0 : 0 < bytes)
    (z0 : α) {ok okp : Nat → Prop} (_hzero : d.M W base okp z0 z.cells.toList) (_hok : ∀ k, okp k → ok k) (hfresh : ok W.heap.size) (h0 : 0 ≤ m) (hl : m.toNat * bytes ≤ 281474976710656) (HB : Below base w0 W) (hbase : base ≤ W.heap.size)
    (h : ∀ v1 w1, d.R e w1 base ok v1 [] → Below base w0 w1 → W.grownBy w1 none → (∃ b, v1.ownBlock = some b ∧ W.heap.size ≤ b) → wpList P ops Q rest (a.put o.dst v1) w1) : wpList P ops Q (o :: rest) a W := by
  obtain ⟨m, rfl⟩ := Int.eq_ofNat_of_zero_le h0
  simp only [Int.toNat_natCast] at hl
  obtain ⟨i0, hi, hzz⟩ := Option.map_eq_some_iff.1 hinfo
  simp only [Prod.mk.injEq] at hzz
  obtain ⟨hz0, hz1, hz2⟩ := hzz
  have hm : m ≤ 281474976710656 := Nat.le_trans (Nat.le_mul_of_pos_right _ hb0) hl
  have hr := run_make (P := P) W t e i0 z ht hi hz0 .i64 .i64 (0 : Int) (m : Int) (by omega) (by omega)
    (by
      have h3 : ((i0.bytes * m : Nat) : Int) ≤ 281474976710656 := by rw [hz2, Nat.mul_comm]; omega
      rwa [Int.natCast_mul] at h3) (by omega)
  simp only [Int.toNat_natCast] at hr
  rw [hz1] at hr
  refine event_run (v := .slice (some ⟨W.heap.size, 0, none⟩) 0 m) hgd (w1 := W.alloc (.cells (madeCells z.cells (m * d.sz)) e)) ?_ (h _ _ ⟨fun k hk => ?_, [], ?_, Reps.none _ _⟩ (HB.alloc hbase _) (World.grownBy_alloc W _ none) ⟨W.heap.size, by simp [Value.ownBlock], Nat.le_refl _⟩)
  · simp [execOp, ho, hx, hy, hr]
  · have : W.heap.size = k := by simpa [Value.ownBlock] using hk
    subst this
    exact hfresh
  · refine ⟨by simp, .inr ⟨W.heap.size, m, _, rfl, hbase, heap_alloc_new W _, Nat.zero_le _, by simp [maxLen]; omega, by simp [size_madeCells], by simp⟩⟩
/-- []byte("..") of a constant: the literal's row, and the mark behind it; it is only read. -/
theorem R_const {w0 W : World} (base e : Nat) (hgd : o.guard = none) {N : Tmp} (_hd : o.dst = some N) (t : TypeId) (x : Operand) (ho : o.op = .convert t t x) (zs : List Int) (Cs : Array Value) (hx : a.eval x = .slice (some ⟨W.heap.size, 0, none⟩) zs.length zs.length)
    (ht : P.underlying t = some (.slice e)) (he : P.underlying e = some (.int .u8)) (hC : Cs = (zs.map (Value.int .u8)).toArray) (hlen : zs.length ≤ 9223372036854775807) (HB : Below base w0 W) (hbase : base ≤ W.heap.size)
    (h : ∀ A c w1, (Kd.int .u8).C w1 A zs.length zs → zs.length ≤ c → Below base w0 w1 → W.grownBy w1 none → wpList P ops Q rest (a.put o.dst (.slice A zs.length c)) w1) : wpList P ops Q (o :: rest) a (W.alloc (.cells Cs e)) := by
  refine event_run (v := .slice (some ⟨W.heap.size, 0, none⟩) zs.length zs.length) hgd (w1 := W.alloc (.cells Cs e (Cs.size, Cs.size + 1))) ?_ (h _ _ _ (C_of_reads (d := (0 : Int)) (h1 := fun _ => rfl) ⟨rfl, hlen, fun _ => ⟨_, rfl, fun i hi => ?_⟩⟩) (Nat.le_refl _) (HB.alloc hbase _) (World.grownBy_alloc W _ none))
  · simp [execOp, ho, hx, Lib.run_convert_bytes_const W t e Cs zs.length zs.length ht he]
  · subst hC
    have hh := heap_alloc_new W (.cells (zs.map (Value.int .u8)).toArray e ((zs.map (Value.int .u8)).toArray.size, (zs.map (Value.int .u8)).toArray.size + 1))
    by_cases h0 : i = 0
    · subst h0; simp only [World.cell?, Addr.add, if_true]; rw [hh]; simp [hi]
    · simp only [World.cell?, Addr.add, if_neg h0]; rw [hh]; simp [hi]
/-- A row with m elements from lo on turned into z0. -/
def clr {α : Type} (z0 : α) : List α → Nat → Nat → List α
  | xs, _, 0 => xs
  | xs, lo, m + 1 => clr z0 (xs.set lo z0) (lo + 1) m
theorem clr_length {α : Type} (z0 : α) (m : Nat) : ∀ (xs : List α) (lo : Nat), (clr z0 xs lo m).length = xs.length := by
  induction m with
  | zero => intro xs lo; rfl
  | succ m ih => intro xs lo; simp only [clr]; rw [ih]; simp
theorem R_setCells {enc : α → Value} {h1 : ∀ x, (enc x).oneCell' = true} {e base g n cap : Nat} {ok : Nat → Prop} (z0 : α) (m : Nat) : ∀ (W : World) (xs : List α) (lo : Nat), (scalar enc h1).R e W base ok (.slice (some ⟨g, 0, none⟩) n cap) xs →
    (scalar enc h1).R e (W.setCells g lo (List.replicate m (enc z0))) base ok (.slice (some ⟨g, 0, none⟩) n cap) (clr z0 xs lo m) ∧ W.grownBy (W.setCells g lo (List.replicate m (enc z0))) (some g) := by
  induction m with
  | zero => intro W xs lo h; exact ⟨h, World.grownBy.refl W _⟩
  | succ m ih =>
    intro W xs lo h
    have hp := R_putg h (lo : Int) z0
    simp only [Int.toNat_natCast] at hp
    obtain ⟨i1, i2⟩ := ih _ _ (lo + 1) hp.1
    rw [List.replicate_succ]
    exact ⟨i1, World.grownBy.trans hp.2 i2⟩
/-- clear(xs[lo:lo+m]), xs a row of the call's own. -/
theorem R_clear {enc : α → Value} {h1 : ∀ x, (enc x).oneCell' = true} {w0 W : World} (base : Nat) (hgd : o.guard = none) (s : Operand) (t e : TypeId) (bytes : Nat) (ho : o.op = .call { callee := .builtin .clear, args := #[s], argTypes := #[t] })
    (ht : P.underlying t = some (.slice e)) (z0 : α) (hinfo : (P.info? e).map (fun i => (i.zero, i.size, i.bytes)) = some (some (enc z0), 1, bytes)) (hzc : (enc z0).cells = #[enc z0])
    {A A' : Option Addr} {n cap lo m c2 : Nat} {xs : List α} {ok : Nat → Prop} (hs : a.eval s = .slice A' m c2) (hA : A' = if cap = lo then A else A.map (·.add (lo * 1)))
    (HO : (scalar enc h1).R e W base ok (.slice A n cap) xs) (hlo : lo + m ≤ n) (HB : Below base w0 W) (hbase : base ≤ W.heap.size)
    (h : ∀ w1, (scalar enc h1).R e w1 base ok (.slice A n cap) (clr z0 xs lo m) → Below base w0 w1 → W.grownBy w1 (Value.slice A n cap).ownBlock → wpList P ops Q rest (a.put o.dst (.tuple #[])) w1) : wpList P ops Q (o :: rest) a W := by
  obtain ⟨i0, hi, hzz⟩ := Option.map_eq_some_iff.1 hinfo
  simp only [Prod.mk.injEq] at hzz
  obtain ⟨hz0, hz1, hz2⟩ := hzz
  rcases Nat.eq_zero_or_pos m with rfl | hm
  · refine event_run (v := .tuple #[]) hgd (w1 := W) ?_ (h W HO HB (World.grownBy.refl W _))
    have hr : ∀ A' : Option Addr, (Builtin.clear_ #[t] o.type #[.slice A' 0 c2]).run P W = .ok (.tuple #[]) W := by
      intro A'
      cases A' <;> simp [Builtin.clear_, run_underlying ht]
    simp [execOp, ho, hs, resolve, invoke, builtin, hr]
  · have hl : xs.length = n := (R_reads' HO).1.symm
    obtain ⟨g, cap', he, hb, hg, cells, hcells⟩ := R_form HO (by omega)
    injection he with ea _ ec
    subst ea
    subst ec
    have hcap : n ≤ cap := (R_reads' HO).2.1
    rw [if_neg (by omega)] at hA
    simp only [Option.map_some, Nat.mul_one] at hA
    have hA2 : A' = some ⟨g, lo, none⟩ := by
      rw [hA]
      by_cases h0 : lo = 0
      · subst h0; simp [Addr.add]
      · simp [Addr.add, h0]
    subst hA2
    have hc : ∀ j, j < m → (W.cell? ⟨g, lo + j, none⟩).isSome = true ∧ W.frozen? ⟨g, lo + j, none⟩ = false := by
      intro j hj
      have := R_celln z0 HO ((lo + j : Nat) : Int) (by omega) (by omega)
      simp only [Int.toNat_natCast] at this
      exact ⟨by rw [this.1]; rfl, this.2⟩
    have hr := Lib.run_clear_slice (P := P) W t e o.type (enc z0) ht (fun w => by simp [zeroValue, typeInfo, hi, hz0]) hzc (h1 z0) g lo m c2 hm (fun j hj => (hc j hj).1) (fun j hj => (hc j hj).2)
    have hp := R_setCells (h1 := h1) z0 m W xs lo HO
    have hgb : (Value.slice (some ⟨g, 0, none⟩) n cap).ownBlock = some g := rfl
    refine event_run (v := .tuple #[]) hgd ?_ (h _ hp.1 (HB.grown hp.2 hbase (fun k hk => by cases hk; exact hb)) (by rw [hgb]; exact hp.2))
    simp [execOp, ho, hs, resolve, invoke, builtin, hr]
end
end Go.Proofs.YtnlndcidnomioaaDoorW.PrintWords.Kd
