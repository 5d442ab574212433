/- Words of this session beside the print's: events that the print does not take. -/
import Derived.Test.YtdhjhcdeeelmhaaWMore
import Derived.Lib.SlBytesConst
import Derived.Lib.BitFns
import Derived.Deep.Light
import Derived.Laws.Externs
import Derived.Lib.SliceRun
import Derived.Lib.AsciiSet
import Derived.Lib.SlTrimSet
import Derived.Lib.Bytealg
import Derived.Deep.WholeRow
import Derived.Laws.ResultCell
import Derived.Laws.RangeString
import Derived.BigQuiet
import Derived.WalkLawsBesides
import Derived.StillTailTactics
namespace Go.Proofs.YtdhjhcdeeelmhaaW.PrintWords.Kd
open Go.RowKit
section
variable {P : Program} {ops : Array Oper} {rest : List Oper} {o : Oper} {a : Act} {Q : Exit → Act → World → Prop} {α : Type}
/-- make([]T, 0, m): an empty row of the call's own. -/
theorem R_make0 (d : Kd α) {w0 W : World} (base e : Nat) (hgd : o.guard = none) {N : Tmp} (_hd : o.dst = some N) (t : TypeId) (x y : Operand) (ho : o.op = .makeSlice t x y) (m : Int) (hx : a.eval x = .int .i64 0) (hy : a.eval y = .int .i64 m)
    (ht : P.underlying t = some (.slice e)) (z : Value) (bytes : Nat) (hinfo : (P.info? e).map (fun i => (i.zero, i.size, i.bytes)) = some (some z, d.sz, bytes)) (_hz : z.cells.size = d.sz) (_hs0 : 0 < d.sz) (hb0 : 0 < bytes)
    (z0 : α) {ok okp : Nat → Prop} (_hzero : d.M W base okp z0 z.cells.toList) (_hok : ∀ k, okp k → ok k) (hfresh : ok W.heap.size) (h0 : 0 ≤ m) (hl : m.toNat * bytes ≤ 281474976710656) (HB : Below base w0 W) (hbase : base ≤ W.heap.size)
    (h : ∀ v1 w1, d.R e w1 base ok v1 [] → Below base w0 w1 → W.grownBy w1 none → (∃ b, v1.ownBlock = some b ∧ W.heap.size ≤ b) → wpList P ops Q rest (a.put o.dst v1) w1) : wpList P ops Q (o :: rest) a W := by
  obtain ⟨m, rfl⟩ := Int.eq_ofNat_of_zero_le h0
  simp only [Int.toNat_natCast] at hl
  obtain ⟨i0, hi, hzz⟩ := Option.map_eq_some_iff.1 hinfo
  simp only [Prod.mk.injEq] at hzz
  obtain ⟨hz0, hz1, hz2⟩ := hzz
  have hm : m ≤ 281474976710656 := Nat.le_trans (Nat.le_mul_of_pos_right _ hb0) hl
  have hr := run_make (P := P) W t e i0 z ht hi hz0 .i64 .i64 (0 : Int) (m : Int) (by omega) (by omega)
    (by
      have h3 : ((i0.bytes * m : Nat) : Int) ≤ 281474976710656 := by rw [hz2, Nat.mul_comm]; omega
      rwa [Int.natCast_mul] at h3) (by omega)
  simp only [Int.toNat_natCast] at hr
  rw [hz1] at hr
  refine event_run (v := .slice (some ⟨W.heap.size, 0, none⟩) 0 m) hgd (w1 := W.alloc (.cells (madeCells z.cells (m * d.sz)) e)) ?_ (h _ _ ⟨fun k hk => ?_, [], ?_, Reps.none _ _⟩ (HB.alloc hbase _) (World.grownBy_alloc W _ none) ⟨W.heap.size, by simp [Value.ownBlock], Nat.le_refl _⟩)
  · simp [execOp, ho, hx, hy, hr]
  · have : W.heap.size = k := by simpa [Value.ownBlock] using hk
    subst this
    exact hfresh
  · refine ⟨by simp, .inr ⟨W.heap.size, m, _, rfl, hbase, heap_alloc_new W _, Nat.zero_le _, by simp [maxLen]; omega, by simp [size_madeCells], by simp⟩⟩
/-- make([]T, n, m): n zeroes, with room for m. -/
theorem R_makec (d : Kd α) {w0 W : World} (base e : Nat) (hgd : o.guard = none) {N : Tmp} (_hd : o.dst = some N) (t : TypeId) (x y : Operand) (ho : o.op = .makeSlice t x y) (n : Int) {m : Int} (hx : a.eval x = .int .i64 n) (hy : a.eval y = .int .i64 m)
    (ht : P.underlying t = some (.slice e)) (z : Value) (bytes : Nat) (hinfo : (P.info? e).map (fun i => (i.zero, i.size, i.bytes)) = some (some z, d.sz, bytes)) (hz : z.cells.size = d.sz) (hs0 : 0 < d.sz) (hb0 : 0 < bytes)
    (z0 : α) {ok okp : Nat → Prop} (hzero : d.M W base okp z0 z.cells.toList) (hok : ∀ k, okp k → ok k) (hfresh : ok W.heap.size) (h0 : 0 ≤ n) (hl : n ≤ m ∧ m.toNat * bytes ≤ 281474976710656) (HB : Below base w0 W) (hbase : base ≤ W.heap.size)
    (h : ∀ v1 w1, d.R e w1 base ok v1 (List.replicate n.toNat z0) → Below base w0 w1 → W.grownBy w1 none → (∃ b, v1.ownBlock = some b ∧ W.heap.size ≤ b) → wpList P ops Q rest (a.put o.dst v1) w1) : wpList P ops Q (o :: rest) a W := by
  obtain ⟨hnm, hl⟩ := hl
  obtain ⟨m, rfl⟩ := Int.eq_ofNat_of_zero_le (Int.le_trans h0 hnm)
  obtain ⟨n, rfl⟩ := Int.eq_ofNat_of_zero_le h0
  simp only [Int.toNat_natCast] at hl h
  have hnm' : n ≤ m := by omega
  obtain ⟨i0, hi, hzz⟩ := Option.map_eq_some_iff.1 hinfo
  simp only [Prod.mk.injEq] at hzz
  obtain ⟨hz0, hz1, hz2⟩ := hzz
  have hm : m ≤ 281474976710656 := Nat.le_trans (Nat.le_mul_of_pos_right _ hb0) hl
  have hr := run_make (P := P) W t e i0 z ht hi hz0 .i64 .i64 (n : Int) (m : Int) (by omega) (by omega)
    (by
      have h3 : ((i0.bytes * m : Nat) : Int) ≤ 281474976710656 := by rw [hz2, Nat.mul_comm]; omega
      rwa [Int.natCast_mul] at h3) (by omega)
  simp only [Int.toNat_natCast] at hr
  rw [hz1] at hr
  have hfull := reps_made (z0 := z0) hz hs0 hzero m
  have hfull' : ∀ w1 ok', d.R e w1 base ok' (.slice (some ⟨W.heap.size, 0, none⟩) m m) (List.replicate m z0) → d.R e w1 base ok' (.slice (some ⟨W.heap.size, 0, none⟩) n m) (List.replicate n z0) := by
    intro w1 ok' h1
    have h2 := R_take h1 (m := n) (by simp; omega)
    rwa [List.take_replicate, Nat.min_eq_left hnm'] at h2
  have hR : d.R e (W.alloc (.cells (madeCells z.cells (m * d.sz)) e)) base ok (.slice (some ⟨W.heap.size, 0, none⟩) m m) (List.replicate m z0) := by
    refine ⟨fun k hk => ?_, (madeCells z.cells (m * d.sz)).toList, ?_, ?_⟩
    · have : W.heap.size = k := by simpa [Value.ownBlock] using hk
      subst this
      exact hfresh
    · have h2 := World.ownsRow_lit (base := base) (e := e) (size := d.sz) W (madeCells z.cells (m * d.sz)) m hbase (by simp [maxLen]; omega) (by simp [size_madeCells])
      simpa using h2
    · refine hfull.imp_ (fun p c hp => d.M_mono (fun k hk => ⟨hok k hk.1, fun he => ?_⟩) (M_below (d.M_bound hp) (below_alloc (Below.refl _ _) _)))
      have h3 : k = W.heap.size := by simpa [Value.ownBlock] using he
      have := hk.2.2.1
      omega
  refine event_run hgd (v := .slice (some ⟨W.heap.size, 0, none⟩) n m) (w1 := W.alloc (.cells (madeCells z.cells (m * d.sz)) e)) ?_ (h _ _ (hfull' _ _ hR) (HB.alloc hbase _) (World.grownBy_alloc W _ none) ⟨W.heap.size, by simp [Value.ownBlock], Nat.le_refl _⟩)
  simp [execOp, ho, hx, hy, hr]
/-- []byte("..") of a constant: the literal's row, and the mark behind it; it is only read. -/
theorem R_const {w0 W : World} (base e : Nat) (hgd : o.guard = none) {N : Tmp} (_hd : o.dst = some N) (t : TypeId) (x : Operand) (ho : o.op = .convert t t x) (zs : List Int) (Cs : Array Value) (hx : a.eval x = .slice (some ⟨W.heap.size, 0, none⟩) zs.length zs.length)
    (ht : P.underlying t = some (.slice e)) (he : P.underlying e = some (.int .u8)) (hC : Cs = (zs.map (Value.int .u8)).toArray) (hlen : zs.length ≤ 9223372036854775807) (HB : Below base w0 W) (hbase : base ≤ W.heap.size)
    (h : ∀ A c w1, (Kd.int .u8).C w1 A zs.length zs → zs.length ≤ c → Below base w0 w1 → W.grownBy w1 none → wpList P ops Q rest (a.put o.dst (.slice A zs.length c)) w1) : wpList P ops Q (o :: rest) a (W.alloc (.cells Cs e)) := by
  refine event_run (v := .slice (some ⟨W.heap.size, 0, none⟩) zs.length zs.length) hgd (w1 := W.alloc (.cells Cs e (Cs.size, Cs.size + 1))) ?_ (h _ _ _ (C_of_reads (d := (0 : Int)) (h1 := fun _ => rfl) ⟨rfl, hlen, fun _ => ⟨_, rfl, fun i hi => ?_⟩⟩) (Nat.le_refl _) (HB.alloc hbase _) (World.grownBy_alloc W _ none))
  · simp [execOp, ho, hx, Lib.run_convert_bytes_const W t e Cs zs.length zs.length ht he]
  · subst hC
    have hh := heap_alloc_new W (.cells (zs.map (Value.int .u8)).toArray e ((zs.map (Value.int .u8)).toArray.size, (zs.map (Value.int .u8)).toArray.size + 1))
    by_cases h0 : i = 0
    · subst h0; simp only [World.cell?, Addr.add, if_true]; rw [hh]; simp [hi]
    · simp only [World.cell?, Addr.add, if_neg h0]; rw [hh]; simp [hi]
/-- A row with m elements from lo on turned into z0. -/
def clr {α : Type} (z0 : α) : List α → Nat → Nat → List α
  | xs, _, 0 => xs
  | xs, lo, m + 1 => clr z0 (xs.set lo z0) (lo + 1) m
theorem clr_length {α : Type} (z0 : α) (m : Nat) : ∀ (xs : List α) (lo : Nat), (clr z0 xs lo m).length = xs.length := by
  induction m with
  | zero => intro xs lo; rfl
  | succ m ih => intro xs lo; simp only [clr]; rw [ih]; simp
theorem R_setCells {enc : α → Value} {h1 : ∀ x, (enc x).oneCell' = true} {e base g n cap : Nat} {ok : Nat → Prop} (z0 : α) (m : Nat) : ∀ (W : World) (xs : List α) (lo : Nat), (scalar enc h1).R e W base ok (.slice (some ⟨g, 0, none⟩) n cap) xs →
    (scalar enc h1).R e (W.setCells g lo (List.replicate m (enc z0))) base ok (.slice (some ⟨g, 0, none⟩) n cap) (clr z0 xs lo m) ∧ W.grownBy (W.setCells g lo (List.replicate m (enc z0))) (some g) := by
  induction m with
  | zero => intro W xs lo h; exact ⟨h, World.grownBy.refl W _⟩
  | succ m ih =>
    intro W xs lo h
    have hp := R_putg h (lo : Int) z0
    simp only [Int.toNat_natCast] at hp
    obtain ⟨i1, i2⟩ := ih _ _ (lo + 1) hp.1
    rw [List.replicate_succ]
    exact ⟨i1, World.grownBy.trans hp.2 i2⟩
/-- clear(xs[lo:lo+m]), xs a row of the call's own. -/
theorem R_clear {enc : α → Value} {h1 : ∀ x, (enc x).oneCell' = true} {w0 W : World} (base : Nat) (hgd : o.guard = none) (s : Operand) (t e : TypeId) (bytes : Nat) (ho : o.op = .call { callee := .builtin .clear, args := #[s], argTypes := #[t] })
    (ht : P.underlying t = some (.slice e)) (z0 : α) (hinfo : (P.info? e).map (fun i => (i.zero, i.size, i.bytes)) = some (some (enc z0), 1, bytes)) (hzc : (enc z0).cells = #[enc z0])
    {A A' : Option Addr} {n cap lo m c2 : Nat} {xs : List α} {ok : Nat → Prop} (hs : a.eval s = .slice A' m c2) (hA : A' = if cap = lo then A else A.map (·.add (lo * 1)))
    (HO : (scalar enc h1).R e W base ok (.slice A n cap) xs) (hlo : lo + m ≤ n) (HB : Below base w0 W) (hbase : base ≤ W.heap.size)
    (h : ∀ w1, (scalar enc h1).R e w1 base ok (.slice A n cap) (clr z0 xs lo m) → Below base w0 w1 → W.grownBy w1 (Value.slice A n cap).ownBlock → wpList P ops Q rest (a.put o.dst (.tuple #[])) w1) : wpList P ops Q (o :: rest) a W := by
  obtain ⟨i0, hi, hzz⟩ := Option.map_eq_some_iff.1 hinfo
  simp only [Prod.mk.injEq] at hzz
  obtain ⟨hz0, hz1, hz2⟩ := hzz
  rcases Nat.eq_zero_or_pos m with rfl | hm
  · refine event_run (v := .tuple #[]) hgd (w1 := W) ?_ (h W HO HB (World.grownBy.refl W _))
    have hr : ∀ A' : Option Addr, (Builtin.clear_ #[t] o.type #[.slice A' 0 c2]).run P W = .ok (.tuple #[]) W := by
      intro A'
      cases A' <;> simp [Builtin.clear_, run_underlying ht]
    simp [execOp, ho, hs, resolve, invoke, builtin, hr]
  · have hl : xs.length = n := (R_reads' HO).1.symm
    obtain ⟨g, cap', he, hb, hg, cells, hcells⟩ := R_form HO (by omega)
    injection he with ea _ ec
    subst ea
    subst ec
    have hcap : n ≤ cap := (R_reads' HO).2.1
    rw [if_neg (by omega)] at hA
    simp only [Option.map_some, Nat.mul_one] at hA
    have hA2 : A' = some ⟨g, lo, none⟩ := by
      rw [hA]
      by_cases h0 : lo = 0
      · subst h0; simp [Addr.add]
      · simp [Addr.add, h0]
    subst hA2
    have hc : ∀ j, j < m → (W.cell? ⟨g, lo + j, none⟩).isSome = true ∧ W.frozen? ⟨g, lo + j, none⟩ = false := by
      intro j hj
      have := R_celln z0 HO ((lo + j : Nat) : Int) (by omega) (by omega)
      simp only [Int.toNat_natCast] at this
      exact ⟨by rw [this.1]; rfl, this.2⟩
    have hr := Lib.run_clear_slice (P := P) W t e o.type (enc z0) ht (fun w => by simp [zeroValue, typeInfo, hi, hz0]) hzc (h1 z0) g lo m c2 hm (fun j hj => (hc j hj).1) (fun j hj => (hc j hj).2)
    have hp := R_setCells (h1 := h1) z0 m W xs lo HO
    have hgb : (Value.slice (some ⟨g, 0, none⟩) n cap).ownBlock = some g := rfl
    refine event_run (v := .tuple #[]) hgd ?_ (h _ hp.1 (HB.grown hp.2 hbase (fun k hk => by cases hk; exact hb)) (by rw [hgb]; exact hp.2))
    simp [execOp, ho, hs, resolve, invoke, builtin, hr]
end
end Go.Proofs.YtdhjhcdeeelmhaaW.PrintWords.Kd
namespace Go.Proofs.YtdhjhcdeeelmhaaW.PrintWords.Kd
open Go.RowKit
section
variable {P : Program} {ops : Array Oper} {rest : List Oper} {o : Oper} {a : Act} {Q : Exit → Act → World → Prop} {α : Type}
theorem zeroCells_mem {zc : Array Value} {n : Nat} (h1 : ∀ v ∈ zc.toList, v.oneCell' = true) : ∀ v ∈ (Builtin.zeroCells zc n).toList, v.oneCell' = true := by
  intro v hv
  rw [Array.mem_toList_iff] at hv
  obtain ⟨i, _, rfl⟩ := Array.mem_map.1 hv
  rw [Array.getElem!_eq_getD, Array.getD_eq_getD_getElem?]
  cases hq : zc[i % zc.size]? with
  | none => simp; rfl
  | some u => simp; exact h1 u (by obtain ⟨hl, e⟩ := Array.getElem?_eq_some_iff.1 hq; rw [← e]; simp)
theorem zeroCells_size (zc : Array Value) (n : Nat) : (Builtin.zeroCells zc n).size = n * zc.size := by simp [Builtin.zeroCells]
/-- A row's first i elements, when what stands behind them is written. -/
theorem R_tail {d : Kd α} {e base g n cap i : Nat} {ok : Nat → Prop} {W : World} {xs : List α} (h : d.R e W base ok (.slice (some ⟨g, 0, none⟩) n cap) xs) (hi : i ≤ xs.length) (vs : List Value) (hfit : i * d.sz + vs.length ≤ cap * d.sz) :
    d.R e (W.setCells g (i * d.sz) vs) base ok (.slice (some ⟨g, 0, none⟩) i cap) (xs.take i) ∧ W.grownBy (W.setCells g (i * d.sz) vs) (some g) := by
  obtain ⟨h0, inner, ho, hr⟩ := R_take h (m := i) hi
  have hfar : ∀ k, k ≠ g → (W.setCells g (i * d.sz) vs).heap[k]? = W.heap[k]? := fun k hk => setCells_far vs _ k hk
  obtain ⟨s1, s2, s3, s4⟩ := setCells_same g vs (i * d.sz) W
  refine ⟨⟨h0, inner, ?_, hr.imp_ (fun _ _ hp => d.M_move (fun k hk => hfar k (fun he => hk.2 (by rw [he]; simp [Value.ownBlock]))) hp)⟩, ⟨s1, s2, s3, by rw [s4]; exact Nat.le_refl _, fun k _ hk => hfar k (fun he => hk (by rw [he]))⟩⟩
  obtain ⟨o1, o2⟩ := ho
  refine ⟨o1, ?_⟩
  rcases o2 with ⟨hv, _⟩ | ⟨g', cap', cur, hv, hb, hh, hnc', hcm, hcs, ht⟩
  · cases hv
  · injection hv with ha _ hc
    injection ha with ha
    injection ha with hg
    subst hg; subst hc
    obtain ⟨cur', h3, h4, h5⟩ := setCells_row vs (i * d.sz) W cur hh (by omega)
    have hl : (xs.take i).length = i := by rw [List.length_take]; omega
    refine .inr ⟨g, cap, cur', by rw [hl], hb, h3, hnc', hcm, by rw [h4, hcs], ?_⟩
    rw [hl] at ht ⊢
    rw [h5, ← ht, List.append_assoc, List.take_append_of_le_length (by rw [List.length_take, Array.length_toList]; omega), List.take_take, Nat.min_self]
/-- clear(xs[i:]), xs a row of the call's own: what stands ahead of i is told on. -/
theorem R_clear_tail (d : Kd α) {w0 W : World} (base : Nat) (hgd : o.guard = none) (s : Operand) (t e : TypeId) (bytes : Nat) (ho : o.op = .call { callee := .builtin .clear, args := #[s], argTypes := #[t] })
    (ht : P.underlying t = some (.slice e)) (z : Value) (hinfo : (P.info? e).map (fun i => (i.zero, i.size, i.bytes)) = some (some z, d.sz, bytes)) (hz : z.cells.size = d.sz) (hz1 : ∀ v ∈ z.cells.toList, v.oneCell' = true)
    {A' : Option Addr} {g n cap i m c2 : Nat} {xs : List α} {ok : Nat → Prop} (hs : a.eval s = .slice A' m c2) (hA : A' = if cap = i then some ⟨g, 0, none⟩ else (some (⟨g, 0, none⟩ : Addr)).map (·.add (i * d.sz)))
    (HO : d.R e W base ok (.slice (some ⟨g, 0, none⟩) n cap) xs) (him : i + m = n) (HB : Below base w0 W) (hbase : base ≤ W.heap.size)
    (h : ∀ w1, d.R e w1 base ok (.slice (some ⟨g, 0, none⟩) i cap) (xs.take i) → Below base w0 w1 → W.grownBy w1 (some g) → wpList P ops Q rest (a.put o.dst (.tuple #[])) w1) : wpList P ops Q (o :: rest) a W := by
  obtain ⟨i0, hi, hzz⟩ := Option.map_eq_some_iff.1 hinfo
  simp only [Prod.mk.injEq] at hzz
  obtain ⟨hz0, hz1', hz2⟩ := hzz
  obtain ⟨hn, hnc, _⟩ := R_reads' HO
  have hgo : (Value.slice (some ⟨g, 0, none⟩) n cap).ownBlock = some g := rfl
  have hbg : base ≤ g := R_base HO g hgo
  rcases Nat.eq_zero_or_pos m with rfl | hm
  · obtain rfl : i = n := by omega
    have hT := R_take HO (m := i) (by omega)
    refine event_run (v := .tuple #[]) hgd (w1 := W) ?_ (h W hT HB (World.grownBy.refl W _))
    have hr : ∀ A' : Option Addr, (Builtin.clear_ #[t] o.type #[.slice A' 0 c2]).run P W = .ok (.tuple #[]) W := by
      intro A'
      cases A' <;> simp [Builtin.clear_, run_underlying ht]
    simp [execOp, ho, hs, resolve, invoke, builtin, hr]
  · have hzl : (Builtin.zeroCells z.cells m).toList.length = m * d.sz := by rw [Array.length_toList, zeroCells_size, hz]
    have hfit : i * d.sz + (Builtin.zeroCells z.cells m).toList.length ≤ cap * d.sz := by
      rw [hzl, ← Nat.add_mul]; exact Nat.mul_le_mul_right _ (by omega)
    have hp := R_tail HO (i := i) (by omega) (Builtin.zeroCells z.cells m).toList hfit
    have hne : cap ≠ i := by omega
    rw [if_neg hne] at hA
    simp only [Option.map_some] at hA
    have hA2 : A' = some ⟨g, i * d.sz, none⟩ := by
      rw [hA, add_plain]
    subst hA2
    obtain ⟨_, inner, hown, _⟩ := HO
    have hst : (storeCells ⟨g, i * d.sz, none⟩ (Builtin.zeroCells z.cells m).toList 0).run P W = .ok () (W.setCells g (i * d.sz) (Builtin.zeroCells z.cells m).toList) := by
      rcases hown.2 with ⟨hv, _⟩ | ⟨g', cap', cur, hv, hb, hh, hnc, hcm, hcs, _⟩
      · cases hv
      injection hv with ha _ hc
      injection ha with ha
      injection ha with hg'
      subst hg'; subst hc
      have hst := run_storeCells_cells (P := P) g (i * d.sz) (Builtin.zeroCells z.cells m).toList 0 W (fun j hj => by rw [cell_of_row W g _ cur e (0, 0) hh]; simp only [Nat.add_zero, Option.isSome_iff_exists]; exact ⟨_, Array.getElem?_eq_getElem (by omega)⟩) (fun j _ => blk_frozen hh _) (zeroCells_mem hz1)
      simpa using hst
    obtain ⟨m', rfl⟩ : ∃ k, m = k + 1 := ⟨m - 1, by omega⟩
    have hr : (Builtin.clear_ #[t] o.type #[.slice (some ⟨g, i * d.sz, none⟩) (m' + 1) c2]).run P W = .ok (.tuple #[]) (W.setCells g (i * d.sz) (Builtin.zeroCells z.cells (m' + 1)).toList) := by
      simp [Builtin.clear_, run_underlying ht, zeroValue, typeInfo, hi, hz0, hst]
    refine event_run (v := .tuple #[]) hgd ?_ (h _ hp.1 (HB.grown hp.2 hbase (fun k hk => by cases hk; exact hbg)) hp.2)
    simp [execOp, ho, hs, resolve, invoke, builtin, hr]
end
end Go.Proofs.YtdhjhcdeeelmhaaW.PrintWords.Kd
namespace Go.Proofs.YtdhjhcdeeelmhaaW.PrintWords
open Go.RowKit
/- A load and a store of a whole row. -/
theorem loadRow_run {P : Program} {w : World} {ty : TypeId} {g : Nat} {v : Value} (h : (loadVar ty ⟨g, 0, none⟩).run P w = .ok v w) {N : Option Tmp} {x : Operand} {tp : TypeId} {pos : String} {af : Array Edge} {gd : Option (Nat × Bool)} {ev : Operand → Value} (hx : ev x = .pointer (some ⟨g, 0, none⟩)) :
    (execOp ev { dst := N, op := .load ty x, type := tp, pos := pos, after := af, guard := gd }).run P w = .ok (.value v) w := by
  simp [execOp, hx, Instr.loadAt, Instr.sureAddr, h, Result.andThen]
theorem storeRow_run {P : Program} {w w1 : World} {ty : TypeId} {g : Nat} {v : Value} (h : (storeVar ty ⟨g, 0, none⟩ v).run P w = .ok () w1) {N : Option Tmp} {x y : Operand} {tp : TypeId} {pos : String} {af : Array Edge} {gd : Option (Nat × Bool)} {ev : Operand → Value} (hx : ev x = .pointer (some ⟨g, 0, none⟩)) (hy : ev y = v) :
    (execOp ev { dst := N, op := .store ty x y, type := tp, pos := pos, after := af, guard := gd }).run P w = .ok .skip w1 := by
  simp [execOp, hx, hy, Instr.storeAt, Instr.sureAddr, h, Result.andThen]
/- Short names for long texts. -/
theorem bA {w W : World} (h : Below w.heap.size w W) (o : Obj) : Below w.heap.size w (W.alloc o) := below_alloc h o
theorem bN {B : Nat} {w W : World} (h : Below B w W) (n : Nat) : Below B w (W.drewN n) := pw_below_drewN h n
theorem b1 {base : Nat} {w W : World} (h : Below base w W) : Below base w W.drew := below_drew1 h
/-- A call of a function that has a text enters it. -/
theorem enters {P : Program} {f : FuncId} {fn : Func} {c : Code} (hf : P.funcs[f]? = some fn) (hname : (fn.name == "runtime.NumGoroutine") = false) (hb : fn.body = some c) (args : Array Value) (w : World) :
    (callFunc f args).run P w = .ok (.enter f args) w := by
  have h1 : fn.name ≠ "runtime.NumGoroutine" := by simpa using hname
  simp [callFunc, hf, h1, hb, mark]
/-! Regions that read, and call what makes memory: any order is the text's, over a class of worlds. -/
theorem wp_region_class {P : Program} {T : Type} (f : T → World) {id : Nat} {Q : Exit → Act → World → Prop} {a : Act} {w : World} {l : List Oper} (hm : P.follows .mixedOrders = true) (hB : Region.lexB .any l.toArray = true) (h0 : ∃ n, w.drew = f n)
    (h : wpQuiet P l.toArray (fun w' => ∃ n, w' = f n) (fun a' => ∀ w', (∃ n, w' = f n) → Q .normal a' w') l a) : (Code.region id l.toArray true).wp P Q a w :=
  wp_region_quiet (C := fun w' => ∃ n, w' = f n) hm hB h0 (by simpa using h)
theorem wp_region_classes {P : Program} {id : Nat} {Q : Exit → Act → World → Prop} {a : Act} {w : World} {l : List Oper} (hm : P.follows .mixedOrders = true) (hB : Region.lexB .any l.toArray = true)
    (h : ∃ (T : Type) (f : T → World), (∃ n, w.drew = f n) ∧ wpQuiet P l.toArray (fun w' => ∃ n, w' = f n) (fun a' => ∀ w', (∃ n, w' = f n) → Q .normal a' w') l a) : (Code.region id l.toArray true).wp P Q a w := by
  obtain ⟨T, f, h0, h⟩ := h
  exact wp_region_class f hm hB h0 h
theorem world_class (S : World → Prop) (w0 : World) (h0 : S w0) : ∃ (T : Type) (f : T → World), Nonempty T ∧ (∃ n, w0 = f n) ∧ (∀ n, S (f n)) ∧ (∀ w', S w' → ∃ n, w' = f n) :=
  ⟨{w // S w}, Subtype.val, ⟨⟨w0, h0⟩⟩, ⟨⟨w0, h0⟩, rfl⟩, fun n => n.2, fun w' h => ⟨⟨w', h⟩, rfl⟩⟩
/-! Regions whose first n operations read or call quietly (in a class of worlds), and whose others follow one by one behind them. -/
section
variable {P : Program} {ops : Array Oper} {md : Region.Mode} {C : World → Prop}
def wpAnyQL (P : Program) (md : Region.Mode) (ops : Array Oper) (C : World → Prop) (n : Nat) (L : Array Bool → Act → Prop) : Nat → Array Bool → Act → Prop
  | 0, listed, a => L listed a
  | f + 1, listed, a => Region.ready md ops listed ≠ [] ∧ ∀ i ∈ Region.ready md ops listed, i < n ∧ qOp P ops C i (wpAnyQL P md ops C n L f (listed.setIfInBounds i true)) a
theorem wpAny_of_headQ {n g : Nat} {L : Array Bool → Act → Prop} {Q' : Exit → Act → World → Prop} (hL : ∀ listed a w, C w → L listed a → wpAny P md ops Q' g listed a w) :
    ∀ (f : Nat) (listed : Array Bool) (a : Act) (w : World), C w → wpAnyQL P md ops C n L f listed a → wpAny P md ops Q' (f + g) listed a w
  | 0, listed, a, w, hw, h => by rw [Nat.zero_add]; exact hL _ _ _ hw h
  | f + 1, listed, a, w, hw, h => by
    rw [show f + 1 + g = (f + g) + 1 by omega]
    exact ⟨fun h0 => absurd h0 h.1, fun i hi => wpOp_of_qOp hw (fun a' w' hw' h' => wpAny_of_headQ hL f _ a' w' hw' h') (h.2 i hi).2⟩
theorem wpAnyQL_first {n i : Nat} {oi : Oper} {v : Value} {L : Array Bool → Act → Prop} (hi : ops[i]? = some oi) (hsel : ∀ (j : Nat) (o : Oper) cs b, ops[j]? = some o → o.op ≠ .select cs b)
    (hs : Region.sinkB md ops n = true) (hc : Region.chainB md ops n = true) (hn : n < ops.size) (hin : i < n) (hdone : ∀ listed a, L listed a → ∀ j ∈ Region.ready md ops listed, n ≤ j) :
    ∀ (f : Nat) (listed : Array Bool) (a : Act), HeadInv md ops n listed →
      (∀ j oj, ops[j]? = some oj → j ≠ i → listed.getD j true = false → (∀ e ∈ oj.after, Region.binds md e = true → e.on ≠ i) → oi.apart ops oj = true) →
      i ∈ Region.ready md ops listed → YieldsIn P ops C oi v a →
      wpAnyQL P md ops C n L f (listed.setIfInBounds i true) (a.put oi.dst v) → wpAnyQL P md ops C n L (f + 1) listed a := by
  intro f
  induction f with
  | zero =>
    intro listed a inv _ hr hy H
    have hun := (mem_ready.1 hr).1
    refine ⟨fun h => (by rw [h] at hr; cases hr), fun j hj => ?_⟩
    have hjn : j < n := Nat.lt_of_not_le fun h => absurd hj (tail_waits hs hc hn inv _ i rfl hin hun j h)
    refine ⟨hjn, ?_⟩
    by_cases hji : j = i
    · subst hji; exact hy.qOp hi H
    · have := hdone _ _ H j (ready_mono hj hji)
      omega
  | succ f ih =>
    intro listed a inv hfree hr hy H
    have hun := (mem_ready.1 hr).1
    refine ⟨fun h => (by rw [h] at hr; cases hr), fun j hj => ?_⟩
    have hjn : j < n := Nat.lt_of_not_le fun h => absurd hj (tail_waits hs hc hn inv _ i rfl hin hun j h)
    refine ⟨hjn, ?_⟩
    by_cases hji : j = i
    · subst hji; exact hy.qOp hi H
    · have h1 := (H.2 j (ready_mono hj hji)).2
      obtain ⟨hjun, oj, hoj, hall⟩ := mem_ready.1 hj
      have hnot : ∀ e ∈ oj.after, Region.binds md e = true → e.on ≠ i := fun e he hb heq => by
        have h1 := hall e he hb
        rw [heq, getD_both hun] at h1
        cases h1
      have h2 := qOp_put hoj (hfree j oj hoj hji hjun hnot) (fun cs b => hsel i oi cs b hi) (fun cs b => hsel j oj cs b hoj) hy h1
      refine qOp_mono (fun a' h3 => ih (listed.setIfInBounds j true) a' (inv.set hj hjn) (fun k ok hk hki hun hno => hfree k ok hk hki ?_ hno) (ready_mono hr (Ne.symm hji)) h3.1 ?_) h2
      · by_cases hjk : j = k
        · subst hjk; exact hjun
        · rw [getD_set_ne true hjk] at hun; exact hun
      · rw [Array.setIfInBounds_comm _ _ hji]
        exact h3.2
theorem wpAnyQL_lex {n g : Nat} {Lq : Act → Prop} (hsel : Region.noSelect ops = true) (hs : Region.sinkB md ops n = true) (hc : Region.chainB md ops n = true) (hn : n < ops.size) :
    ∀ (l : List Oper) (k : Nat) (listed : Array Bool) (a : Act), (∀ j, j < l.length → l[j]? = ops[k + j]?) → k + l.length = n → HeadInv md ops n listed →
    Region.lexHead md ops g l.length k listed = true → wpQuiet P ops C Lq l a →
    wpAnyQL P md ops C n (fun listed' a' => Region.seqB md ops g n listed' = true ∧ Lq a') l.length listed a
  | [], k, listed, a, _, hk, _, hB, h => by
    have : k = n := by simpa using hk
    subst this
    exact ⟨by simpa [Region.lexHead] using hB, h⟩
  | o :: l, k, listed, a, hl, hk, inv, hB, h => by
    have h0 : ops[k]? = some o := by simpa using (hl 0 (by simp)).symm
    simp only [List.length_cons, Region.lexHead, Bool.and_eq_true] at hB
    obtain ⟨⟨hr, hf⟩, hB'⟩ := hB
    have hkn : k < n := by simp only [List.length_cons] at hk; omega
    have hr' : k ∈ Region.ready md ops listed := by simpa using hr
    have hst : qOp P ops C k (wpQuiet P ops C Lq l) a := by unfold qOp; simp only [h0]; exact h
    obtain ⟨v, hy, hK⟩ := yieldsIn_of_qOp h0 hst
    exact wpAnyQL_first h0 (Region.noSelect_spec hsel) hs hc hn hkn (fun listed' a' hL => seqB_ready hL.1) l.length listed a inv (Region.free_spec h0 hf) hr' hy
      (wpAnyQL_lex hsel hs hc hn l (k + 1) _ _ (fun j hj => by have := hl (j + 1) (by simp; omega); simpa [Nat.add_assoc, Nat.add_comm 1 j] using this) (by simp only [List.length_cons] at hk; omega) (inv.set hr' hkn) hB' hK)
theorem wp_region_quiet_tail {id : Nat} {Q : Exit → Act → World → Prop} {a : Act} {w : World} {l : List Oper} (n : Nat) (hm : P.follows .mixedOrders = true) (hB : Region.lexTailB .any l.toArray n = true) (hC : C w.drew)
    (h : wpQuiet P l.toArray C (fun a' => ∀ w', C w' → wpList P l.toArray Q (l.drop n) a' w') (l.take n) a) : (Code.region id l.toArray true).wp P Q a w := by
  simp only [Region.lexTailB, Bool.and_eq_true, decide_eq_true_eq] at hB
  obtain ⟨⟨⟨⟨hsel, hn⟩, hs⟩, hc⟩, hlex⟩ := hB
  have hn' : n < l.length := by simpa using hn
  have htl : (l.take n).length = n := by simp; omega
  have hdl : (l.drop n).length = l.toArray.size - n := by simp
  have inv0 : HeadInv .any l.toArray n (Array.replicate l.toArray.size false) :=
    ⟨by simp, fun j oj _ hl => (by rw [getD_replicate_false] at hl; cases hl), fun t _ ht => getD_in (by simpa using ht) (getD_replicate_false _ _)⟩
  have H := wpAnyQL_lex (md := .any) (g := l.toArray.size - n) hsel hs hc hn (l.take n) 0 _ a (fun j hj => by
    have hj' : j < n := by rw [htl] at hj; exact hj
    simp [hj']) (by simpa using htl) inv0 (by rw [htl]; exact hlex) h
  refine wp_region_any hm ?_
  have := wpAny_of_headQ (Q' := Q) (g := l.toArray.size - n) (fun listed a' w' hw hL => by
    have := wpAny_of_seq (md := .any) (Q' := Q) (l.drop n) n listed a' w' (fun j => by simp [List.getElem?_drop]) (by rw [hdl]; exact hL.1) (hL.2 w' hw)
    rwa [hdl] at this) _ _ _ w.drew hC H
  rw [htl, show n + (l.toArray.size - n) = l.toArray.size by omega] at this
  exact this
/-- The same, at the class of the worlds f n (world_class). -/
theorem wp_region_tail_classes {id : Nat} {Q : Exit → Act → World → Prop} {a : Act} {w : World} {l : List Oper} (n : Nat) (hm : P.follows .mixedOrders = true) (hB : Region.lexTailB .any l.toArray n = true)
    (h : ∃ (T : Type) (f : T → World), (∃ n, w.drew = f n) ∧ wpQuiet P l.toArray (fun w' => ∃ n, w' = f n) (fun a' => ∀ w', (∃ n, w' = f n) → wpList P l.toArray Q (l.drop n) a' w') (l.take n) a) : (Code.region id l.toArray true).wp P Q a w := by
  obtain ⟨T, f, h0, h⟩ := h
  exact wp_region_quiet_tail n hm hB h0 h
/-- .. and at the class 'w behind some draws'. -/
theorem wp_region_quiet_tail_lit {id : Nat} {Q : Exit → Act → World → Prop} {a : Act} {w : World} {l : List Oper} (n : Nat) (hm : P.follows .mixedOrders = true) (hB : Region.lexTailB .any l.toArray n = true)
    (h : wpQuiet P l.toArray (fun w' => ∃ n, w' = w.drewN n) (fun a' => ∀ w', (∃ n, w' = w.drewN n) → wpList P l.toArray Q (l.drop n) a' w') (l.take n) a) : (Code.region id l.toArray true).wp P Q a w :=
  wp_region_quiet_tail (C := fun w' => ∃ n, w' = w.drewN n) n hm hB ⟨1, rfl⟩ h
end
/-! Where something stands first in a row. -/
def idxOf {α : Type} (p : α → Bool) (l : List α) : Int := match l.findIdx? p with | some i => (i : Int) | none => -1
theorem idxOf_ge {α : Type} (p : α → Bool) (l : List α) : (decide (idxOf p l ≥ 0)) = l.any p := by
  unfold idxOf
  cases h : l.findIdx? p with
  | none =>
    rw [List.findIdx?_eq_none_iff] at h
    have : l.any p = false := by rw [List.any_eq_false]; intro x hx; rw [h x hx]; decide
    rw [this]; rfl
  | some i =>
    obtain ⟨hi, hp, _⟩ := List.findIdx?_eq_some_iff_getElem.1 h
    have : l.any p = true := List.any_eq_true.2 ⟨l[i], List.getElem_mem hi, hp⟩
    rw [this]; exact decide_eq_true (Int.natCast_nonneg i)
theorem find_loop {α : Type} (p : α → Bool) (l : List α) (L : Nat → Nat → Option Int) (hs : ∀ k i, (h : i < l.length) → L (k + 1) i = if p l[i] = true then some (i : Int) else L k (i + 1)) (he : ∀ k, L (k + 1) l.length = some (-1)) (d : Nat) :
    ∀ i, i + d = l.length → (∀ j, (h : j < l.length) → j < i → p l[j] = false) → Ev (fun k => L k i) (idxOf p l) := by
  induction d with
  | zero =>
    intro i hi hn
    obtain rfl : i = l.length := by omega
    have : idxOf p l = -1 := by
      unfold idxOf
      rw [List.findIdx?_eq_none_iff.2 (fun x hx => by obtain ⟨j, hj, rfl⟩ := List.mem_iff_getElem.1 hx; exact hn j hj hj)]
    rw [this]
    exact Ev.step (f := fun _ => some (-1)) he (Ev.now _)
  | succ d ih =>
    intro i hi hn
    have hlt : i < l.length := by omega
    cases hp : p l[i] with
    | true =>
      have : idxOf p l = (i : Int) := by
        unfold idxOf
        rw [List.findIdx?_eq_some_iff_getElem.2 ⟨hlt, hp, fun j hj => by rw [hn j (by omega) hj]; decide⟩]
      rw [this]
      exact Ev.step (f := fun _ => some (i : Int)) (fun k => by rw [hs k i hlt, if_pos hp]) (Ev.now _)
    | false =>
      refine Ev.step (f := fun k => L k (i + 1)) (fun k => by rw [hs k i hlt, if_neg (by rw [hp]; decide)]) (ih (i + 1) (by omega) fun j hj hji => ?_)
      rcases Nat.lt_or_ge j i with h | h
      · exact hn j hj h
      · obtain rfl : j = i := by omega
        exact hp
/-- A row is like itself. -/
theorem same_loop {α : Type} (l : List α) (L : Nat → Nat → Option Bool) (hs : ∀ k i, (h : i < l.length) → L (k + 1) i = L k (i + 1)) (he : ∀ k, L (k + 1) l.length = some true) (d : Nat) :
    ∀ i, i + d = l.length → Ev (fun k => L k i) true := by
  induction d with
  | zero => intro i hi; obtain rfl : i = l.length := by omega
            exact Ev.step (f := fun _ => some true) he (Ev.now _)
  | succ d ih => intro i hi; exact Ev.step (f := fun k => L k (i + 1)) (fun k => hs k i (by omega)) (ih (i + 1) (by omega))
/-- Is a text among others? -/
def isText (x : ByteArray) (y : ByteArray) : Bool := decide (y.toList = x.toList)
def hasText (l : List ByteArray) (x : ByteArray) : Bool := l.any (isText x)
theorem rdOf_at {α : Type} (z : α) (l : List α) (i : Nat) (h : i < l.length) : rdOf z l (i : Int) = l[i] := by simp [rdOf, h]
theorem rd_at (l : List Int) (i : Nat) (h : i < l.length) : rd l (i : Int) = l[i] := by simp [rd, h]
theorem wrap_succ (i n : Nat) (h : i < n) (hn : n ≤ 9223372036854775807) : wrap64 ((i : Int) + 1) = ((i + 1 : Nat) : Int) := by unfold wrap64; omega
/-! The order of strings. -/
theorem bytesLess_irrefl : ∀ a : List UInt8, Op.bytesLess a a = false
  | [] => rfl
  | a :: x => by simp [Op.bytesLess, bytesLess_irrefl x, UInt8.lt_irrefl]
theorem bytesLess_asymm : ∀ a b : List UInt8, Op.bytesLess a b = true → Op.bytesLess b a = false
  | _, [], h => by simp [Op.bytesLess] at h
  | [], _ :: _, _ => rfl
  | a :: x, b :: y, h => by
    simp only [Op.bytesLess, Bool.or_eq_true, Bool.and_eq_true, decide_eq_true_eq, beq_iff_eq] at h
    simp only [Op.bytesLess, Bool.or_eq_false_iff, Bool.and_eq_false_iff, decide_eq_false_iff_not]
    rcases h with h | ⟨rfl, h⟩
    · exact ⟨UInt8.lt_asymm h, .inl (beq_eq_false_iff_ne.mpr fun e => by subst e; exact UInt8.lt_irrefl _ h)⟩
    · exact ⟨UInt8.lt_irrefl _, .inr (bytesLess_asymm x y h)⟩
theorem bytesLess_tri : ∀ a b : List UInt8, Op.bytesLess a b = true ∨ a = b ∨ Op.bytesLess b a = true
  | [], [] => .inr (.inl rfl)
  | [], _ :: _ => .inl rfl
  | _ :: _, [] => .inr (.inr rfl)
  | a :: x, b :: y => by
    simp only [Op.bytesLess, Bool.or_eq_true, Bool.and_eq_true, decide_eq_true_eq, beq_iff_eq]
    by_cases e : a = b
    · subst e
      rcases bytesLess_tri x y with h | h | h
      · exact .inl (.inr ⟨rfl, h⟩)
      · exact .inr (.inl (by rw [h]))
      · exact .inr (.inr (.inr ⟨rfl, h⟩))
    · rcases UInt8.lt_or_lt_of_ne e with h | h
      · exact .inl (.inl h)
      · exact .inr (.inr (.inl h))
theorem bytesLess_trans : ∀ a b c : List UInt8, Op.bytesLess a b = true → Op.bytesLess b c = true → Op.bytesLess a c = true
  | _, [], _, h, _ => by simp [Op.bytesLess] at h
  | _, _ :: _, [], _, k => by simp [Op.bytesLess] at k
  | [], _ :: _, _ :: _, _, _ => rfl
  | a :: x, b :: y, c :: z, h, k => by
    simp only [Op.bytesLess, Bool.or_eq_true, Bool.and_eq_true, decide_eq_true_eq, beq_iff_eq] at h k ⊢
    rcases h with h | ⟨rfl, h⟩
    · rcases k with k | ⟨rfl, k⟩
      · exact .inl (UInt8.lt_trans h k)
      · exact .inl h
    · rcases k with k | ⟨rfl, k⟩
      · exact .inl k
      · exact .inr ⟨rfl, bytesLess_trans x y z h k⟩
/-! Keys: 64 digits of 16, as 32 bytes. -/
/-- The sixteen digits. -/
def digs : List UInt8 := [48, 49, 50, 51, 52, 53, 54, 55, 56, 57, 97, 98, 99, 100, 101, 102]
theorem digs_ascii (j : Nat) (b : UInt8) (h : digs[j]? = some b) : b.toNat < 128 := by
  have : ∀ x ∈ digs, x.toNat < 128 := by decide
  exact this b (List.mem_of_getElem? h)
/-- A digit's worth. -/
def dg (c : UInt8) : Int := Lib.indexByte digs c
/-- A key: 64 digits. -/
def isKey (s : ByteArray) : Bool := decide (s.size = 64) && s.data.toList.all (digs.contains ·)
/-- What of a key's bytes is known behind i digits. -/
def keyAt (l : List UInt8) (i : Nat) : List Int := (List.range 32).map fun j => (if 2 * j < i then 16 * dg (l.getD (2 * j) 0) else 0) + (if 2 * j + 1 < i then dg (l.getD (2 * j + 1) 0) else 0)
def keyRow (s : ByteArray) : List Int := keyAt s.data.toList 64
theorem dg_range (c : UInt8) (h : digs.contains c = true) : 0 ≤ dg c ∧ dg c ≤ 15 := by
  have : ∀ c ∈ digs, 0 ≤ dg c ∧ dg c ≤ 15 := by decide
  exact this c (by simpa using h)
theorem digs_low (c : UInt8) (h : digs.contains c = true) : c.toNat < 128 := by
  have : ∀ c ∈ digs, c.toNat < 128 := by decide
  exact this c (by simpa using h)
theorem keyAt_length (l : List UInt8) (i : Nat) : (keyAt l i).length = 32 := by simp [keyAt]
theorem keyAt_get (l : List UInt8) (i j : Nat) (hj : j < 32) : (keyAt l i)[j]? = some ((if 2 * j < i then 16 * dg (l.getD (2 * j) 0) else 0) + (if 2 * j + 1 < i then dg (l.getD (2 * j + 1) 0) else 0)) := by
  simp [keyAt, hj]
theorem keyAt_zero (l : List UInt8) : keyAt l 0 = List.replicate 32 0 := by
  apply List.ext_getElem? ; intro j
  by_cases hj : j < 32
  · rw [keyAt_get l 0 j hj, List.getElem?_replicate, if_pos hj]; simp
  · rw [List.getElem?_eq_none (by rw [keyAt_length]; omega), List.getElem?_eq_none (by simp; omega)]
theorem keyAt_even (l : List UInt8) (m : Nat) (hm : m < 32) : (keyAt l (2 * m)).set m (16 * dg (l.getD (2 * m) 0)) = keyAt l (2 * m + 1) := by
  apply List.ext_getElem? ; intro j
  by_cases hj : j < 32
  · rw [List.getElem?_set, keyAt_length, keyAt_get l _ j hj, keyAt_get l _ j hj]
    by_cases e : m = j
    · subst e; simp [hm]
    · rw [if_neg e]; congr 1
      simp only [show (2 * j < 2 * m) = (2 * j < 2 * m + 1) from by apply propext; omega, show (2 * j + 1 < 2 * m) = (2 * j + 1 < 2 * m + 1) from by apply propext; omega]
  · rw [List.getElem?_eq_none (by rw [List.length_set, keyAt_length]; omega), List.getElem?_eq_none (by rw [keyAt_length]; omega)]
theorem keyAt_odd (l : List UInt8) (m : Nat) (hm : m < 32) : (keyAt l (2 * m + 1)).set m (16 * dg (l.getD (2 * m) 0) + dg (l.getD (2 * m + 1) 0)) = keyAt l (2 * m + 1 + 1) := by
  apply List.ext_getElem? ; intro j
  by_cases hj : j < 32
  · rw [List.getElem?_set, keyAt_length, keyAt_get l _ j hj, keyAt_get l _ j hj]
    by_cases e : m = j
    · subst e; simp [hm]; omega
    · rw [if_neg e]; congr 1
      simp only [show (2 * j < 2 * m + 1) = (2 * j < 2 * m + 1 + 1) from by apply propext; omega, show (2 * j + 1 < 2 * m + 1) = (2 * j + 1 < 2 * m + 1 + 1) from by apply propext; omega]
  · rw [List.getElem?_eq_none (by rw [List.length_set, keyAt_length]; omega), List.getElem?_eq_none (by rw [keyAt_length]; omega)]
theorem or_even (q : Int) (h0 : 0 ≤ q) (h1 : q ≤ 15) : Go.bits .or .u8 0 (q * 16) = 16 * q := by
  have : ∀ n : Fin 16, Go.bits .or .u8 0 ((n.1 : Int) * 16) = 16 * (n.1 : Int) := by decide +kernel
  have h := this ⟨q.toNat, by omega⟩
  simpa [Int.toNat_of_nonneg h0] using h
theorem or_odd (p q : Int) (h0 : 0 ≤ p) (h1 : p ≤ 15) (h2 : 0 ≤ q) (h3 : q ≤ 15) : Go.bits .or .u8 (16 * p) q = 16 * p + q := by
  have : ∀ n m : Fin 16, Go.bits .or .u8 (16 * (n.1 : Int)) (m.1 : Int) = 16 * (n.1 : Int) + (m.1 : Int) := by decide +kernel
  have h := this ⟨p.toNat, by omega⟩ ⟨q.toNat, by omega⟩
  simpa [Int.toNat_of_nonneg h0, Int.toNat_of_nonneg h2] using h
theorem keyCells_set (l : List UInt8) (i j m : Nat) (v : Int) (h : (keyAt l i).set m v = keyAt l j) : (((keyAt l i).map (Value.int .u8)).toArray).setIfInBounds m (.int .u8 v) = ((keyAt l j).map (Value.int .u8)).toArray := by
  rw [← h]; simp [List.map_set]
theorem dropWhile_nil {α : Type} (p : α → Bool) (l : List α) : l.dropWhile p = [] ↔ ∀ x ∈ l, p x = true := by
  induction l with
  | nil => simp
  | cons a l ih =>
    rw [List.dropWhile_cons]
    by_cases h : p a = true
    · simp [h, ih]
    · simp [h]
theorem trimS_empty (l cs : List UInt8) : Lib.trimS l cs = [] ↔ l.all (cs.contains ·) = true := by
  unfold Lib.trimS Lib.trimLeftS Lib.trimRightS
  rw [dropWhile_nil]
  constructor
  · intro h
    by_cases hd : l.reverse.dropWhile (cs.contains ·) = []
    · rw [dropWhile_nil] at hd
      rw [List.all_eq_true]; intro x hx; exact hd x (by simpa using hx)
    · exfalso
      have hh := List.head_dropWhile_not (cs.contains ·) (l := l.reverse) hd
      have hm := h ((l.reverse.dropWhile (cs.contains ·)).head hd) (by rw [List.mem_reverse]; exact List.head_mem hd)
      rw [hm] at hh; cases hh
  · intro h x hx
    rw [List.all_eq_true] at h
    rw [List.mem_reverse] at hx
    exact h x (by have := (List.dropWhile_sublist (cs.contains ·) (l := l.reverse)).subset hx; simpa using this)
end Go.Proofs.YtdhjhcdeeelmhaaW.PrintWords
