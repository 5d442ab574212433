import Derived.Test.YtoobchhfcobbpaaDoorWMore
import Derived.Lib.SlBytesConst
import Derived.Lib.BitFns
import Derived.Deep.Light
import Derived.Laws.Externs
import Derived.Lib.SliceRun
import Derived.Lib.AsciiSet
import Derived.Lib.SlTrimSet
import Derived.Lib.Bytealg
import Derived.Deep.WholeRow
import Derived.Laws.ResultCell
import Derived.Laws.RangeString
import Derived.BigQuiet
import Derived.WalkLawsBesides
import Derived.StillTailTactics
namespace Go.Proofs.YtoobchhfcobbpaaDoorW.PrintWords.Kd
open Go.RowKit
section
variable {P : Program} {ops : Array Oper} {rest : List Oper} {o : Oper} {a : Act} {Q : Exit → Act → World → Prop} {α : Type}
theorem R_const {w0 W : World} (base e : Nat) (hgd : o.guard = none) {N : Tmp} (_hd : o.dst = some N) (t : TypeId) (x : Operand) (ho : o.op = .convert t t x) (zs : List Int) (Cs : Array Value) (hx : a.eval x = .slice (some ⟨W.heap.size, 0, none⟩) zs.length zs.length)
    (ht : P.underlying t = some (.slice e)) (he : P.underlying e = some (.int .u8)) (hC : Cs = (zs.map (Value.int .u8)).toArray) (hlen : zs.length ≤ 9223372036854775807) (HB : Below base w0 W) (hbase : base ≤ W.heap.size)
    (h : ∀ A c w1, (Kd.int .u8).C w1 A zs.length zs → zs.length ≤ c → Below base w0 w1 → W.grownBy w1 none → wpList P ops Q rest (a.put o.dst (.slice A zs.length c)) w1) : wpList P ops Q (o :: rest) a (W.alloc (.cells Cs e)) := by
  refine event_run (v := .slice (some ⟨W.heap.size, 0, none⟩) zs.length zs.length) hgd (w1 := W.alloc (.cells Cs e (Cs.size, Cs.size + 1))) ?_ (h _ _ _ (C_of_reads (d := (0 : Int)) (h1 := fun _ => rfl) ⟨rfl, hlen, fun _ => ⟨_, rfl, fun i hi => ?_⟩⟩) (Nat.le_refl _) (HB.alloc hbase _) (World.grownBy_alloc W _ none))
  · simp [execOp, ho, hx, Lib.run_convert_bytes_const W t e Cs zs.length zs.length ht he]
  · subst hC
    have hh := heap_alloc_new W (.cells (zs.map (Value.int .u8)).toArray e ((zs.map (Value.int .u8)).toArray.size, (zs.map (Value.int .u8)).toArray.size + 1))
    by_cases h0 : i = 0
    · subst h0; simp only [World.cell?, Addr.add, if_true]; rw [hh]; simp [hi]
    · simp only [World.cell?, Addr.add, if_neg h0]; rw [hh]; simp [hi]
end
end Go.Proofs.YtoobchhfcobbpaaDoorW.PrintWords.Kd
namespace Go.Proofs.YtoobchhfcobbpaaDoorW.PrintWords.Kd
open Go.RowKit
section
variable {P : Program} {ops : Array Oper} {rest : List Oper} {o : Oper} {a : Act} {Q : Exit → Act → World → Prop} {α : Type}
theorem zeroCells_mem {zc : Array Value} {n : Nat} (h1 : ∀ v ∈ zc.toList, v.oneCell' = true) : ∀ v ∈ (Builtin.zeroCells zc n).toList, v.oneCell' = true := by
  intro v hv
  rw [Array.mem_toList_iff] at hv
  obtain ⟨i, _, rfl⟩ := Array.mem_map.1 hv
  rw [Array.getElem!_eq_getD, Array.getD_eq_getD_getElem?]
  cases hq : zc[i % zc.size]? with
  | none => simp; rfl
  | some u => simp; exact h1 u (by obtain ⟨hl, e⟩ := Array.getElem?_eq_some_iff.1 hq; rw [← e]; simp)
theorem zeroCells_size (zc : Array Value) (n : Nat) : (Builtin.zeroCells zc n).size = n * zc.size := by simp [Builtin.zeroCells]
theorem R_tail {d : Kd α} {e base g n cap i : Nat} {ok : Nat → Prop} {W : World} {xs : List α} (h : d.R e W base ok (.slice (some ⟨g, 0, none⟩) n cap) xs) (hi : i ≤ xs.length) (vs : List Value) (hfit : i * d.sz + vs.length ≤ cap * d.sz) :
    d.R e (W.setCells g (i * d.sz) vs) base ok (.slice (some ⟨g, 0, none⟩) i cap) (xs.take i) ∧ W.grownBy (W.setCells g (i * d.sz) vs) (some g) := by
  obtain ⟨h0, inner, ho, hr⟩ := R_take h (m := i) hi
  have hfar : ∀ k, k ≠ g → (W.setCells g (i * d.sz) vs).heap[k]? = W.heap[k]? := fun k hk => setCells_far vs _ k hk
  obtain ⟨s1, s2, s3, s4⟩ := setCells_same g vs (i * d.sz) W
  refine ⟨⟨h0, inner, ?_, hr.imp_ (fun _ _ hp => d.M_move (fun k hk => hfar k (fun he => hk.2 (by rw [he]; simp [Value.ownBlock]))) hp)⟩, ⟨s1, s2, s3, by rw [s4]; exact Nat.le_refl _, fun k _ hk => hfar k (fun he => hk (by rw [he]))⟩⟩
  obtain ⟨o1, o2⟩ := ho
  refine ⟨o1, ?_⟩
  rcases o2 with ⟨hv, _⟩ | ⟨g', cap', cur, hv, hb, hh, hnc', hcm, hcs, ht⟩
  · cases hv
  · injection hv with ha _ hc
    injection ha with ha
    injection ha with hg
    subst hg; subst hc
    obtain ⟨cur', h3, h4, h5⟩ := setCells_row vs (i * d.sz) W cur hh (by omega)
    have hl : (xs.take i).length = i := by rw [List.length_take]; omega
    refine .inr ⟨g, cap, cur', by rw [hl], hb, h3, hnc', hcm, by rw [h4, hcs], ?_⟩
    rw [hl] at ht ⊢
    rw [h5, ← ht, List.append_assoc, List.take_append_of_le_length (by rw [List.length_take, Array.length_toList]; omega), List.take_take, Nat.min_self]
theorem R_clear_tail (d : Kd α) {w0 W : World} (base : Nat) (hgd : o.guard = none) (s : Operand) (t e : TypeId) (bytes : Nat) (ho : o.op = .call { callee := .builtin .clear, args := #[s], argTypes := #[t] })
    (ht : P.underlying t = some (.slice e)) (z : Value) (hinfo : (P.info? e).map (fun i => (i.zero, i.size, i.bytes)) = some (some z, d.sz, bytes)) (hz : z.cells.size = d.sz) (hz1 : ∀ v ∈ z.cells.toList, v.oneCell' = true)
    {A' : Option Addr} {g n cap i m c2 : Nat} {xs : List α} {ok : Nat → Prop} (hs : a.eval s = .slice A' m c2) (hA : A' = if cap = i then some ⟨g, 0, none⟩ else (some (⟨g, 0, none⟩ : Addr)).map (·.add (i * d.sz)))
    (HO : d.R e W base ok (.slice (some ⟨g, 0, none⟩) n cap) xs) (him : i + m = n) (HB : Below base w0 W) (hbase : base ≤ W.heap.size)
    (h : ∀ w1, d.R e w1 base ok (.slice (some ⟨g, 0, none⟩) i cap) (xs.take i) → Below base w0 w1 → W.grownBy w1 (some g) → wpList P ops Q rest (a.put o.dst (.tuple #[])) w1) : wpList P ops Q (o :: rest) a W := by
  obtain ⟨i0, hi, hzz⟩ := Option.map_eq_some_iff.1 hinfo
  simp only [Prod.mk.injEq] at hzz
  obtain ⟨hz0, hz1', hz2⟩ := hzz
  obtain ⟨hn, hnc, _⟩ := R_reads' HO
  have hgo : (Value.slice (some ⟨g, 0, none⟩) n cap).ownBlock = some g := rfl
  have hbg : base ≤ g := R_base HO g hgo
  rcases Nat.eq_zero_or_pos m with rfl | hm
  · obtain rfl : i = n := by omega
    have hT := R_take HO (m := i) (by omega)
    refine event_run (v := .tuple #[]) hgd (w1 := W) ?_ (h W hT HB (World.grownBy.refl W _))
    have hr : ∀ A' : Option Addr, (Builtin.clear_ #[t] o.type #[.slice A' 0 c2]).run P W = .ok (.tuple #[]) W := by
      intro A'
      cases A' <;> simp [Builtin.clear_, run_underlying ht]
    simp [execOp, ho, hs, resolve, invoke, builtin, hr]
  · have hzl : (Builtin.zeroCells z.cells m).toList.length = m * d.sz := by rw [Array.length_toList, zeroCells_size, hz]
    have hfit : i * d.sz + (Builtin.zeroCells z.cells m).toList.length ≤ cap * d.sz := by
      rw [hzl, ← Nat.add_mul]; exact Nat.mul_le_mul_right _ (by omega)
    have hp := R_tail HO (i := i) (by omega) (Builtin.zeroCells z.cells m).toList hfit
    have hne : cap ≠ i := by omega
    rw [if_neg hne] at hA
    simp only [Option.map_some] at hA
    have hA2 : A' = some ⟨g, i * d.sz, none⟩ := by
      rw [hA, add_plain]
    subst hA2
    obtain ⟨_, inner, hown, _⟩ := HO
    have hst : (storeCells ⟨g, i * d.sz, none⟩ (Builtin.zeroCells z.cells m).toList 0).run P W = .ok () (W.setCells g (i * d.sz) (Builtin.zeroCells z.cells m).toList) := by
      rcases hown.2 with ⟨hv, _⟩ | ⟨g', cap', cur, hv, hb, hh, hnc, hcm, hcs, _⟩
      · cases hv
      injection hv with ha _ hc
      injection ha with ha
      injection ha with hg'
      subst hg'; subst hc
      have hst := run_storeCells_cells (P := P) g (i * d.sz) (Builtin.zeroCells z.cells m).toList 0 W (fun j hj => by rw [cell_of_row W g _ cur e (0, 0) hh]; simp only [Nat.add_zero, Option.isSome_iff_exists]; exact ⟨_, Array.getElem?_eq_getElem (by omega)⟩) (fun j _ => blk_frozen hh _) (zeroCells_mem hz1)
      simpa using hst
    obtain ⟨m', rfl⟩ : ∃ k, m = k + 1 := ⟨m - 1, by omega⟩
    have hr : (Builtin.clear_ #[t] o.type #[.slice (some ⟨g, i * d.sz, none⟩) (m' + 1) c2]).run P W = .ok (.tuple #[]) (W.setCells g (i * d.sz) (Builtin.zeroCells z.cells (m' + 1)).toList) := by
      simp [Builtin.clear_, run_underlying ht, zeroValue, typeInfo, hi, hz0, hst]
    refine event_run (v := .tuple #[]) hgd ?_ (h _ hp.1 (HB.grown hp.2 hbase (fun k hk => by cases hk; exact hbg)) hp.2)
    simp [execOp, ho, hs, resolve, invoke, builtin, hr]
end
end Go.Proofs.YtoobchhfcobbpaaDoorW.PrintWords.Kd
namespace Go.Proofs.YtoobchhfcobbpaaDoorW.PrintWords
open Go.RowKit
theorem loadRow_run {P : Program} {w : World} {ty : TypeId} {g : Nat} {v : Value} (h : (loadVar ty ⟨g, 0, none⟩).run P w = .ok v w) {N : Option Tmp} {x : Operand} {tp : TypeId} {pos : String} {af : Array Edge} {gd : Option (Nat × Bool)} {ev : Operand → Value} (hx : ev x = .pointer (some ⟨g, 0, none⟩)) :
    (execOp ev { dst := N, op := .load ty x, type := tp, pos := pos, after := af, guard := gd }).run P w = .ok (.value v) w := by
  simp [execOp, hx, Instr.loadAt, Instr.sureAddr, h, Result.andThen]
theorem storeRow_run {P : Program} {w w1 : World} {ty : TypeId} {g : Nat} {v : Value} (h : (storeVar ty ⟨g, 0, none⟩ v).run P w = .ok () w1) {N : Option Tmp} {x y : Operand} {tp : TypeId} {pos : String} {af : Array Edge} {gd : Option (Nat × Bool)} {ev : Operand → Value} (hx : ev x = .pointer (some ⟨g, 0, none⟩)) (hy : ev y = v) :
    (execOp ev { dst := N, op := .store ty x y, type := tp, pos := pos, after := af, guard := gd }).run P w = .ok .skip w1 := by
  simp [execOp, hx, hy, Instr.storeAt, Instr.sureAddr, h, Result.andThen]
theorem b1 {base : Nat} {w W : World} (h : Below base w W) : Below base w W.drew := below_drew1 h
theorem enters {P : Program} {f : FuncId} {fn : Func} {c : Code} (hf : P.funcs[f]? = some fn) (hname : (fn.name == "runtime.NumGoroutine") = false) (hb : fn.body = some c) (args : Array Value) (w : World) :
    (callFunc f args).run P w = .ok (.enter f args) w := by
  have h1 : fn.name ≠ "runtime.NumGoroutine" := by simpa using hname
  simp [callFunc, hf, h1, hb, mark]
theorem wp_region_class {P : Program} {T : Type} (f : T → World) {id : Nat} {Q : Exit → Act → World → Prop} {a : Act} {w : World} {l : List Oper} (hm : P.follows .mixedOrders = true) (hB : Region.lexB .any l.toArray = true) (h0 : ∃ n, w.drew = f n)
    (h : wpQuiet P l.toArray (fun w' => ∃ n, w' = f n) (fun a' => ∀ w', (∃ n, w' = f n) → Q .normal a' w') l a) : (Code.region id l.toArray true).wp P Q a w :=
  wp_region_quiet (C := fun w' => ∃ n, w' = f n) hm hB h0 (by simpa using h)
theorem wp_region_classes {P : Program} {id : Nat} {Q : Exit → Act → World → Prop} {a : Act} {w : World} {l : List Oper} (hm : P.follows .mixedOrders = true) (hB : Region.lexB .any l.toArray = true)
    (h : ∃ (T : Type) (f : T → World), (∃ n, w.drew = f n) ∧ wpQuiet P l.toArray (fun w' => ∃ n, w' = f n) (fun a' => ∀ w', (∃ n, w' = f n) → Q .normal a' w') l a) : (Code.region id l.toArray true).wp P Q a w := by
  obtain ⟨T, f, h0, h⟩ := h
  exact wp_region_class f hm hB h0 h
theorem world_class (S : World → Prop) (w0 : World) (h0 : S w0) : ∃ (T : Type) (f : T → World), Nonempty T ∧ (∃ n, w0 = f n) ∧ (∀ n, S (f n)) ∧ (∀ w', S w' → ∃ n, w' = f n) :=
  ⟨{w // S w}, Subtype.val, ⟨⟨w0, h0⟩⟩, ⟨⟨w0, h0⟩, rfl⟩, fun n => n.2, fun w' h => ⟨⟨w', h⟩, rfl⟩⟩
def idxOf {α : Type} (p : α → Bool) (l : List α) : Int := match l.findIdx? p with | some i => (i : Int) | none => -1
theorem idxOf_ge {α : Type} (p : α → Bool) (l : List α) : (decide (idxOf p l ≥ 0)) = l.any p := by
  unfold idxOf
  cases h : l.findIdx? p with
  | none =>
    rw [List.findIdx?_eq_none_iff] at h
    have : l.any p = false := by rw [List.any_eq_false]; intro x hx; rw [h x hx]; decide
    rw [this]; rfl
  | some i =>
    obtain ⟨hi, hp, _⟩ := List.findIdx?_eq_some_iff_getElem.1 h
    have : l.any p = true := List.any_eq_true.2 ⟨l[i], List.getElem_mem hi, hp⟩
    rw [this]; exact decide_eq_true (Int.natCast_nonneg i)
theorem find_loop {α : Type} (p : α → Bool) (l : List α) (L : Nat → Nat → Option Int) (hs : ∀ k i, (h : i < l.length) → L (k + 1) i = if p l[i] = true then some (i : Int) else L k (i + 1)) (he : ∀ k, L (k + 1) l.length = some (-1)) (d : Nat) :
    ∀ i, i + d = l.length → (∀ j, (h : j < l.length) → j < i → p l[j] = false) → Ev (fun k => L k i) (idxOf p l) := by
  induction d with
  | zero =>
    intro i hi hn
    obtain rfl : i = l.length := by omega
    have : idxOf p l = -1 := by
      unfold idxOf
      rw [List.findIdx?_eq_none_iff.2 (fun x hx => by obtain ⟨j, hj, rfl⟩ := List.mem_iff_getElem.1 hx; exact hn j hj hj)]
    rw [this]
    exact Ev.step (f := fun _ => some (-1)) he (Ev.now _)
  | succ d ih =>
    intro i hi hn
    have hlt : i < l.length := by omega
    cases hp : p l[i] with
    | true =>
      have : idxOf p l = (i : Int) := by
        unfold idxOf
        rw [List.findIdx?_eq_some_iff_getElem.2 ⟨hlt, hp, fun j hj => by rw [hn j (by omega) hj]; decide⟩]
      rw [this]
      exact Ev.step (f := fun _ => some (i : Int)) (fun k => by rw [hs k i hlt, if_pos hp]) (Ev.now _)
    | false =>
      refine Ev.step (f := fun k => L k (i + 1)) (fun k => by rw [hs k i hlt, if_neg (by rw [hp]; decide)]) (ih (i + 1) (by omega) fun j hj hji => ?_)
      rcases Nat.lt_or_ge j i with h | h
      · exact hn j hj h
      · obtain rfl : j = i := by omega
        exact hp
theorem same_loop {α : Type} (l : List α) (L : Nat → Nat → Option Bool) (hs : ∀ k i, (h : i < l.length) → L (k + 1) i = L k (i + 1)) (he : ∀ k, L (k + 1) l.length = some true) (d : Nat) :
    ∀ i, i + d = l.length → Ev (fun k => L k i) true := by
  induction d with
  | zero => intro i hi; obtain rfl : i = l.length := by omega
            exact Ev.step (f := fun _ => some true) he (Ev.now _)
  | succ d ih => intro i hi; exact Ev.step (f := fun k => L k (i + 1)) (fun k => hs k i (by omega)) (ih (i + 1) (by omega))
def isText (x : ByteArray) (y : ByteArray) : Bool := decide (y.toList = x.toList)
def hasText (l : List ByteArray) (x : ByteArray) : Bool := l.any (isText x)
theorem rdOf_at {α : Type} (z : α) (l : List α) (i : Nat) (h : i < l.length) : rdOf z l (i : Int) = l[i] := by simp [rdOf, h]
theorem rd_at (l : List Int) (i : Nat) (h : i < l.length) : rd l (i : Int) = l[i] := by simp [rd, h]
theorem wrap_succ (i n : Nat) (h : i < n) (hn : n ≤ 9223372036854775807) : wrap64 ((i : Int) + 1) = ((i + 1 : Nat) : Int) := by unfold wrap64; omega
theorem bytesLess_irrefl : ∀ a : List UInt8, Op.bytesLess a a = false
  | [] => rfl
  | a :: x => by simp [Op.bytesLess, bytesLess_irrefl x, UInt8.lt_irrefl]
theorem bytesLess_asymm : ∀ a b : List UInt8, Op.bytesLess a b = true → Op.bytesLess b a = false
  | _, [], h => by simp [Op.bytesLess] at h
  | [], _ :: _, _ => rfl
  | a :: x, b :: y, h => by
    simp only [Op.bytesLess, Bool.or_eq_true, Bool.and_eq_true, decide_eq_true_eq, beq_iff_eq] at h
    simp only [Op.bytesLess, Bool.or_eq_false_iff, Bool.and_eq_false_iff, decide_eq_false_iff_not]
    rcases h with h | ⟨rfl, h⟩
    · exact ⟨UInt8.lt_asymm h, .inl (beq_eq_false_iff_ne.mpr fun e => by subst e; exact UInt8.lt_irrefl _ h)⟩
    · exact ⟨UInt8.lt_irrefl _, .inr (bytesLess_asymm x y h)⟩
theorem bytesLess_tri : ∀ a b : List UInt8, Op.bytesLess a b = true ∨ a = b ∨ Op.bytesLess b a = true
  | [], [] => .inr (.inl rfl)
  | [], _ :: _ => .inl rfl
  | _ :: _, [] => .inr (.inr rfl)
  | a :: x, b :: y => by
    simp only [Op.bytesLess, Bool.or_eq_true, Bool.and_eq_true, decide_eq_true_eq, beq_iff_eq]
    by_cases e : a = b
    · subst e
      rcases bytesLess_tri x y with h | h | h
      · exact .inl (.inr ⟨rfl, h⟩)
      · exact .inr (.inl (by rw [h]))
      · exact .inr (.inr (.inr ⟨rfl, h⟩))
    · rcases UInt8.lt_or_lt_of_ne e with h | h
      · exact .inl (.inl h)
      · exact .inr (.inr (.inl h))
def digs : List UInt8 := [48, 49, 50, 51, 52, 53, 54, 55, 56, 57, 97, 98, 99, 100, 101, 102]
theorem digs_ascii (j : Nat) (b : UInt8) (h : digs[j]? = some b) : b.toNat < 128 := by
  have : ∀ x ∈ digs, x.toNat < 128 := by decide
  exact this b (List.mem_of_getElem? h)
def dg (c : UInt8) : Int := Lib.indexByte digs c
def isKey (s : ByteArray) : Bool := decide (s.size = 64) && s.data.toList.all (digs.contains ·)
def keyAt (l : List UInt8) (i : Nat) : List Int := (List.range 32).map fun j => (if 2 * j < i then 16 * dg (l.getD (2 * j) 0) else 0) + (if 2 * j + 1 < i then dg (l.getD (2 * j + 1) 0) else 0)
def keyRow (s : ByteArray) : List Int := keyAt s.data.toList 64
theorem dg_range (c : UInt8) (h : digs.contains c = true) : 0 ≤ dg c ∧ dg c ≤ 15 := by
  have : ∀ c ∈ digs, 0 ≤ dg c ∧ dg c ≤ 15 := by decide
  exact this c (by simpa using h)
theorem digs_low (c : UInt8) (h : digs.contains c = true) : c.toNat < 128 := by
  have : ∀ c ∈ digs, c.toNat < 128 := by decide
  exact this c (by simpa using h)
theorem keyAt_length (l : List UInt8) (i : Nat) : (keyAt l i).length = 32 := by simp [keyAt]
theorem keyAt_get (l : List UInt8) (i j : Nat) (hj : j < 32) : (keyAt l i)[j]? = some ((if 2 * j < i then 16 * dg (l.getD (2 * j) 0) else 0) + (if 2 * j + 1 < i then dg (l.getD (2 * j + 1) 0) else 0)) := by
  simp [keyAt, hj]
theorem keyAt_zero (l : List UInt8) : keyAt l 0 = List.replicate 32 0 := by
  apply List.ext_getElem? ; intro j
  by_cases hj : j < 32
  · rw [keyAt_get l 0 j hj, List.getElem?_replicate, if_pos hj]; simp
  · rw [List.getElem?_eq_none (by rw [keyAt_length]; omega), List.getElem?_eq_none (by simp; omega)]
theorem keyAt_even (l : List UInt8) (m : Nat) (hm : m < 32) : (keyAt l (2 * m)).set m (16 * dg (l.getD (2 * m) 0)) = keyAt l (2 * m + 1) := by
  apply List.ext_getElem? ; intro j
  by_cases hj : j < 32
  · rw [List.getElem?_set, keyAt_length, keyAt_get l _ j hj, keyAt_get l _ j hj]
    by_cases e : m = j
    · subst e; simp [hm]
    · rw [if_neg e]; congr 1
      simp only [show (2 * j < 2 * m) = (2 * j < 2 * m + 1) from by apply propext; omega, show (2 * j + 1 < 2 * m) = (2 * j + 1 < 2 * m + 1) from by apply propext; omega]
  · rw [List.getElem?_eq_none (by rw [List.length_set, keyAt_length]; omega), List.getElem?_eq_none (by rw [keyAt_length]; omega)]
theorem keyAt_odd (l : List UInt8) (m : Nat) (hm : m < 32) : (keyAt l (2 * m + 1)).set m (16 * dg (l.getD (2 * m) 0) + dg (l.getD (2 * m + 1) 0)) = keyAt l (2 * m + 1 + 1) := by
  apply List.ext_getElem? ; intro j
  by_cases hj : j < 32
  · rw [List.getElem?_set, keyAt_length, keyAt_get l _ j hj, keyAt_get l _ j hj]
    by_cases e : m = j
    · subst e; simp [hm]; omega
    · rw [if_neg e]; congr 1
      simp only [show (2 * j < 2 * m + 1) = (2 * j < 2 * m + 1 + 1) from by apply propext; omega, show (2 * j + 1 < 2 * m + 1) = (2 * j + 1 < 2 * m + 1 + 1) from by apply propext; omega]
  · rw [List.getElem?_eq_none (by rw [List.length_set, keyAt_length]; omega), List.getElem?_eq_none (by rw [keyAt_length]; omega)]
theorem or_even (q : Int) (h0 : 0 ≤ q) (h1 : q ≤ 15) : Go.bits .or .u8 0 (q * 16) = 16 * q := by
  have : ∀ n : Fin 16, Go.bits .or .u8 0 ((n.1 : Int) * 16) = 16 * (n.1 : Int) := by decide +kernel
  have h := this ⟨q.toNat, by omega⟩
  simpa [Int.toNat_of_nonneg h0] using h
theorem or_odd (p q : Int) (h0 : 0 ≤ p) (h1 : p ≤ 15) (h2 : 0 ≤ q) (h3 : q ≤ 15) : Go.bits .or .u8 (16 * p) q = 16 * p + q := by
  have : ∀ n m : Fin 16, Go.bits .or .u8 (16 * (n.1 : Int)) (m.1 : Int) = 16 * (n.1 : Int) + (m.1 : Int) := by decide +kernel
  have h := this ⟨p.toNat, by omega⟩ ⟨q.toNat, by omega⟩
  simpa [Int.toNat_of_nonneg h0, Int.toNat_of_nonneg h2] using h
theorem keyCells_set (l : List UInt8) (i j m : Nat) (v : Int) (h : (keyAt l i).set m v = keyAt l j) : (((keyAt l i).map (Value.int .u8)).toArray).setIfInBounds m (.int .u8 v) = ((keyAt l j).map (Value.int .u8)).toArray := by
  rw [← h]; simp [List.map_set]
theorem dropWhile_nil {α : Type} (p : α → Bool) (l : List α) : l.dropWhile p = [] ↔ ∀ x ∈ l, p x = true := by
  induction l with
  | nil => simp
  | cons a l ih =>
    rw [List.dropWhile_cons]
    by_cases h : p a = true
    · simp [h, ih]
    · simp [h]
theorem trimS_empty (l cs : List UInt8) : Lib.trimS l cs = [] ↔ l.all (cs.contains ·) = true := by
  unfold Lib.trimS Lib.trimLeftS Lib.trimRightS
  rw [dropWhile_nil]
  constructor
  · intro h
    by_cases hd : l.reverse.dropWhile (cs.contains ·) = []
    · rw [dropWhile_nil] at hd
      rw [List.all_eq_true]; intro x hx; exact hd x (by simpa using hx)
    · exfalso
      have hh := List.head_dropWhile_not (cs.contains ·) (l := l.reverse) hd
      have hm := h ((l.reverse.dropWhile (cs.contains ·)).head hd) (by rw [List.mem_reverse]; exact List.head_mem hd)
      rw [hm] at hh; cases hh
  · intro h x hx
    rw [List.all_eq_true] at h
    rw [List.mem_reverse] at hx
    exact h x (by have := (List.dropWhile_sublist (cs.contains ·) (l := l.reverse)).subset hx; simpa using this)
end Go.Proofs.YtoobchhfcobbpaaDoorW.PrintWords
