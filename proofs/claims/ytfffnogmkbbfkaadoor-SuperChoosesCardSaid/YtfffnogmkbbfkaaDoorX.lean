import Derived.Test.YtfffnogmkbbfkaaDoorWMore
import Derived.Lib.SlBytesConst
import Derived.Lib.BitFns
import Derived.Deep.Light
import Derived.Laws.Externs
import Derived.Lib.SliceRun
import Derived.Lib.AsciiSet
import Derived.Lib.SlTrimSet
import Derived.Lib.Bytealg
import Derived.Deep.WholeRow
import Derived.Laws.ResultCell
import Derived.Laws.RangeString
import Derived.BigQuiet
import Derived.WalkLawsBesides
import Derived.StillTailTactics
namespace Go.Proofs.YtfffnogmkbbfkaaDoorW.PrintWords.Kd
open Go.RowKit
section
variable {P : Program} {ops : Array Oper} {rest : List Oper} {o : Oper} {a : Act} {Q : Exit → Act → World → Prop} {α : Type}
theorem R_make0 (d : Kd α) {w0 W : World} (base e : Nat) (hgd : o.guard = none) {N : Tmp} (_hd : o.dst = some N) (t : TypeId) (x y : Operand) (ho : o.op = .makeSlice t x y) (m : Int) (hx : a.eval x = .int .i64 0) (hy : a.eval y = .int .i64 m)
    (ht : P.underlying t = some (.slice e)) (z : Value) (bytes : Nat) (hinfo : (P.info? e).map (fun i => (i.zero, i.size, i.bytes)) = some (some z, d.sz, bytes)) (_hz : z.cells.size = d.sz) (_hs0 : 0 < d.sz) (hb0 : 0 < bytes)
    (z0 : α) {ok okp : Nat → Prop} (_hzero : d.M W base okp z0 z.cells.toList) (_hok : ∀ k, okp k → ok k) (hfresh : ok W.heap.size) (h0 : 0 ≤ m) (hl : m.toNat * bytes ≤ 281474976710656) (HB : Below base w0 W) (hbase : base ≤ W.heap.size)
    (h : ∀ v1 w1, d.R e w1 base ok v1 [] → Below base w0 w1 → W.grownBy w1 none → (∃ b, v1.ownBlock = some b ∧ W.heap.size ≤ b) → wpList P ops Q rest (a.put o.dst v1) w1) : wpList P ops Q (o :: rest) a W := by
  obtain ⟨m, rfl⟩ := Int.eq_ofNat_of_zero_le h0
  simp only [Int.toNat_natCast] at hl
  obtain ⟨i0, hi, hzz⟩ := Option.map_eq_some_iff.1 hinfo
  simp only [Prod.mk.injEq] at hzz
  obtain ⟨hz0, hz1, hz2⟩ := hzz
  have hm : m ≤ 281474976710656 := Nat.le_trans (Nat.le_mul_of_pos_right _ hb0) hl
  have hr := run_make (P := P) W t e i0 z ht hi hz0 .i64 .i64 (0 : Int) (m : Int) (by omega) (by omega)
    (by
      have h3 : ((i0.bytes * m : Nat) : Int) ≤ 281474976710656 := by rw [hz2, Nat.mul_comm]; omega
      rwa [Int.natCast_mul] at h3) (by omega)
  simp only [Int.toNat_natCast] at hr
  rw [hz1] at hr
  refine event_run (v := .slice (some ⟨W.heap.size, 0, none⟩) 0 m) hgd (w1 := W.alloc (.cells (madeCells z.cells (m * d.sz)) e)) ?_ (h _ _ ⟨fun k hk => ?_, [], ?_, Reps.none _ _⟩ (HB.alloc hbase _) (World.grownBy_alloc W _ none) ⟨W.heap.size, by simp [Value.ownBlock], Nat.le_refl _⟩)
  · simp [execOp, ho, hx, hy, hr]
  · have : W.heap.size = k := by simpa [Value.ownBlock] using hk
    subst this
    exact hfresh
  · refine ⟨by simp, .inr ⟨W.heap.size, m, _, rfl, hbase, heap_alloc_new W _, Nat.zero_le _, by simp [maxLen]; omega, by simp [size_madeCells], by simp⟩⟩
theorem R_const {w0 W : World} (base e : Nat) (hgd : o.guard = none) {N : Tmp} (_hd : o.dst = some N) (t : TypeId) (x : Operand) (ho : o.op = .convert t t x) (zs : List Int) (Cs : Array Value) (hx : a.eval x = .slice (some ⟨W.heap.size, 0, none⟩) zs.length zs.length)
    (ht : P.underlying t = some (.slice e)) (he : P.underlying e = some (.int .u8)) (hC : Cs = (zs.map (Value.int .u8)).toArray) (hlen : zs.length ≤ 9223372036854775807) (HB : Below base w0 W) (hbase : base ≤ W.heap.size)
    (h : ∀ A c w1, (Kd.int .u8).C w1 A zs.length zs → zs.length ≤ c → Below base w0 w1 → W.grownBy w1 none → wpList P ops Q rest (a.put o.dst (.slice A zs.length c)) w1) : wpList P ops Q (o :: rest) a (W.alloc (.cells Cs e)) := by
  refine event_run (v := .slice (some ⟨W.heap.size, 0, none⟩) zs.length zs.length) hgd (w1 := W.alloc (.cells Cs e (Cs.size, Cs.size + 1))) ?_ (h _ _ _ (C_of_reads (d := (0 : Int)) (h1 := fun _ => rfl) ⟨rfl, hlen, fun _ => ⟨_, rfl, fun i hi => ?_⟩⟩) (Nat.le_refl _) (HB.alloc hbase _) (World.grownBy_alloc W _ none))
  · simp [execOp, ho, hx, Lib.run_convert_bytes_const W t e Cs zs.length zs.length ht he]
  · subst hC
    have hh := heap_alloc_new W (.cells (zs.map (Value.int .u8)).toArray e ((zs.map (Value.int .u8)).toArray.size, (zs.map (Value.int .u8)).toArray.size + 1))
    by_cases h0 : i = 0
    · subst h0; simp only [World.cell?, Addr.add, if_true]; rw [hh]; simp [hi]
    · simp only [World.cell?, Addr.add, if_neg h0]; rw [hh]; simp [hi]
end
end Go.Proofs.YtfffnogmkbbfkaaDoorW.PrintWords.Kd
namespace Go.Proofs.YtfffnogmkbbfkaaDoorW.PrintWords.Kd
open Go.RowKit
section
variable {P : Program} {ops : Array Oper} {rest : List Oper} {o : Oper} {a : Act} {Q : Exit → Act → World → Prop} {α : Type}
end
theorem C_rows {w : World} (T e : Nat) (vs : List (Option Addr × Nat × List Int)) (hv : ∀ v ∈ vs, v.2.2.length ≤ v.2.1 ∧ (Kd.int .u8).C w v.1 v.2.2.length v.2.2) (hl : vs.length ≤ 9223372036854775807) :
    (Kd.slice e (Kd.int .u8)).C (w.alloc (.cells (vs.map fun v => Value.slice v.1 v.2.2.length v.2.1).toArray T)) (some ⟨w.heap.size, 0, none⟩) (vs.map (·.2.2)).length (vs.map (·.2.2)) := by
  refine ⟨rfl, by simpa using hl, fun _ => ⟨_, rfl, fun j p hp => ?_⟩⟩
  rw [List.getElem?_map] at hp
  obtain ⟨v, hj, rfl⟩ := Option.map_eq_some_iff.1 hp
  obtain ⟨h1, h2⟩ := hv v (List.mem_of_getElem? hj)
  refine ⟨[.slice v.1 v.2.2.length v.2.1], rfl, ⟨v.1, v.2.1, rfl, h1, C_alloc h2 _⟩, fun i u hi => ?_⟩
  have hi0 : i = 0 := by
    rcases Nat.eq_zero_or_pos i with h | h
    · exact h
    · rw [List.getElem?_eq_none (by simp; omega)] at hi; cases hi
  subst hi0
  have hu : Value.slice v.1 v.2.2.length v.2.1 = u := by simpa using hi
  subst hu
  have hc := blk_cell (blk_new w (.cells (vs.map fun v => Value.slice v.1 v.2.2.length v.2.1).toArray T)) j
  have he : (⟨w.heap.size, 0, none⟩ : Addr).add (j * 1 + 0) = ⟨w.heap.size, j, none⟩ := by
    by_cases h0 : j = 0
    · subst h0; simp [Addr.add]
    · simp [Addr.add, h0]
  show (w.alloc _).cell? ((⟨w.heap.size, 0, none⟩ : Addr).add (j * 1 + 0)) = _
  rw [he, hc]
  simp [hj]
end Go.Proofs.YtfffnogmkbbfkaaDoorW.PrintWords.Kd
namespace Go.Proofs.YtfffnogmkbbfkaaDoorW.PrintWords
open Go.RowKit
theorem loadRow_run {P : Program} {w : World} {ty : TypeId} {g : Nat} {v : Value} (h : (loadVar ty ⟨g, 0, none⟩).run P w = .ok v w) {N : Option Tmp} {x : Operand} {tp : TypeId} {pos : String} {af : Array Edge} {gd : Option (Nat × Bool)} {ev : Operand → Value} (hx : ev x = .pointer (some ⟨g, 0, none⟩)) :
    (execOp ev { dst := N, op := .load ty x, type := tp, pos := pos, after := af, guard := gd }).run P w = .ok (.value v) w := by
  simp [execOp, hx, Instr.loadAt, Instr.sureAddr, h, Result.andThen]
theorem storeRow_run {P : Program} {w w1 : World} {ty : TypeId} {g : Nat} {v : Value} (h : (storeVar ty ⟨g, 0, none⟩ v).run P w = .ok () w1) {N : Option Tmp} {x y : Operand} {tp : TypeId} {pos : String} {af : Array Edge} {gd : Option (Nat × Bool)} {ev : Operand → Value} (hx : ev x = .pointer (some ⟨g, 0, none⟩)) (hy : ev y = v) :
    (execOp ev { dst := N, op := .store ty x y, type := tp, pos := pos, after := af, guard := gd }).run P w = .ok .skip w1 := by
  simp [execOp, hx, hy, Instr.storeAt, Instr.sureAddr, h, Result.andThen]
theorem bA {w W : World} (h : Below w.heap.size w W) (o : Obj) : Below w.heap.size w (W.alloc o) := below_alloc h o
theorem bN {B : Nat} {w W : World} (h : Below B w W) (n : Nat) : Below B w (W.drewN n) := pw_below_drewN h n
theorem b1 {base : Nat} {w W : World} (h : Below base w W) : Below base w W.drew := below_drew1 h
section
variable {P : Program} {ops : Array Oper} {md : Region.Mode} {C : World → Prop}
end
section
variable {P : Program} {ops : Array Oper} {md : Region.Mode}
def upd (u : Nat → Value) (k : Nat) (v : Value) : Nat → Value := fun j => if j = k then v else u j
def ancB (md : Region.Mode) (ops : Array Oper) (anc : Nat → List Nat) : Bool :=
  (List.range ops.size).all fun k => match ops[k]? with
    | some o => (o.after.all fun e => !Region.binds md e || decide (e.on < k)) && (anc k).all fun i => decide (i < k) && o.after.any fun e => Region.binds md e && (e.on == i || (anc e.on).contains i)
    | none => false
def leftOf (n : Nat) (listed : Array Bool) : Nat := (List.range n).countP fun i => !listed.getD i true
theorem countP_one (p q : Nat → Bool) (i : Nat) (hp : p i = true) (hq : q i = false) (hne : ∀ j, j ≠ i → q j = p j) : ∀ l : List Nat, l.Nodup → i ∈ l → l.countP q + 1 = l.countP p
  | [], _, h => by simp at h
  | x :: l, hn, h => by
    rw [List.nodup_cons] at hn
    by_cases e : x = i
    · subst e
      rw [List.countP_cons, List.countP_cons, hp, hq]
      have : l.countP q = l.countP p := List.countP_congr (fun j hj => by rw [hne j (fun e => hn.1 (e ▸ hj))])
      simp [this]
    · have hi : i ∈ l := by
        rcases List.mem_cons.1 h with h | h
        · exact absurd h.symm e
        · exact h
      have := countP_one p q i hp hq hne l hn.2 hi
      rw [List.countP_cons, List.countP_cons, hne x e]
      omega
theorem least_of {p : Nat → Prop} [DecidablePred p] : ∀ n : Nat, p n → ∃ i, i ≤ n ∧ p i ∧ ∀ j, j < i → ¬ p j := by
  intro n
  induction n using Nat.strongRecOn with
  | _ n ih =>
    intro h
    by_cases hq : ∃ j, j < n ∧ p j
    · obtain ⟨j, hj, hp⟩ := hq
      obtain ⟨i, h1, h2, h3⟩ := ih j hj hp
      exact ⟨i, by omega, h2, h3⟩
    · exact ⟨n, Nat.le_refl _, h, fun j hj hp => hq ⟨j, hj, hp⟩⟩
def FreeStep (P : Program) (ops : Array Oper) (Q : Exit → Act → World → Prop) (Step : World → World → Prop) (o : Oper) (a : Act) (W : World) (R : Value → World → Prop) : Prop :=
  ∀ K : Act → World → Prop, Aside0 (∀ v W', Step W W' → R v W' → K (a.put o.dst v) W') → if Region.wanted o (yielded ops a.tmps) = true then Oper.wp P o a W K Q else K (a.put o.dst undef) W
theorem free_head {Q : Exit → Act → World → Prop} {A : (Nat → Value) → Act} {anc : Nat → List Nat} {Step : World → World → Prop} {B : World → Prop} {R : Nat → List Value → Value → World → Prop} {J : (Nat → Value) → World → Prop} {u0 : Nat → Value} {n : Nat} (hn : n < ops.size)
    (hs : Region.sinkB md ops n = true) (hc : Region.chainB md ops n = true) (hseq : Region.seqB md ops (ops.size - n) n ((Array.range ops.size).map fun i => decide (i < n)) = true)
    (hanc : ancB md ops anc = true) (hA : ∀ u k v o, ops[k]? = some o → (A u).put o.dst v = A (upd u k v)) (hB : ∀ W W', Step W W' → B W → B W') (hR : ∀ k us v W W', Step W W' → R k us v W → R k us v W')
    (spec : ∀ k o, k < n → ops[k]? = some o → ∀ u W, B W → J u W → u k = u0 k → (∀ j ∈ anc k, R j ((anc j).map u) (u j) W) → FreeStep P ops Q Step o (A u) W (fun v W' => R k ((anc k).map u) v W' ∧ J (upd u k v) W'))
    (fin : ∀ u W, B W → J u W → (∀ k, k < n → R k ((anc k).map u) (u k) W) → wpList P ops Q (ops.toList.drop n) (A u) W) :
    ∀ (fuel : Nat) (listed : Array Bool) (u : Nat → Value) (W : World), HeadInv md ops n listed → leftOf n listed = fuel → (∀ j, listed.getD j false = true → ∀ i ∈ anc j, listed.getD i false = true) → B W → J u W → (∀ j, listed.getD j false = false → u j = u0 j) →
      (∀ j, listed.getD j false = true → R j ((anc j).map u) (u j) W) → wpAny P md ops Q (fuel + (ops.size - n)) listed (A u) W := by
  have hat : ∀ k o, ops[k]? = some o → (∀ e ∈ o.after, Region.binds md e = true → e.on < k) ∧ ∀ i ∈ anc k, i < k ∧ ∃ e ∈ o.after, Region.binds md e = true ∧ (e.on = i ∨ i ∈ anc e.on) := by
    intro k o ho
    have hk : k < ops.size := (Array.getElem?_eq_some_iff.1 ho).1
    have h := List.all_eq_true.1 hanc k (List.mem_range.2 hk)
    rw [ho] at h
    simp only [Bool.and_eq_true, Array.all_eq_true_iff_forall_mem, List.all_eq_true, Bool.or_eq_true, Bool.not_eq_true', decide_eq_true_eq, Array.any_eq_true'] at h
    obtain ⟨h1, h2⟩ := h
    refine ⟨fun e he hb => (h1 e he).elim (fun h => by rw [hb] at h; cases h) id, fun i hi => ?_⟩
    obtain ⟨h3, e, he, hb⟩ := h2 i hi
    refine ⟨h3, e, he, hb.1, hb.2.imp (fun h => by simpa using h) (fun h => by simpa using h)⟩
  have both : ∀ (listed : Array Bool) (i : Nat), listed.size = ops.size → i < ops.size → listed.getD i true = listed.getD i false := by
    intro listed i hs hi
    have : i < listed.size := by omega
    simp [this]
  intro fuel
  induction fuel with
  | zero =>
    intro listed u W inv hl hcl hb hj hun hr
    have hall : ∀ i, i < n → listed.getD i true = true := by
      intro i hi
      have := List.countP_eq_zero.1 hl i (List.mem_range.2 hi)
      simpa using this
    have he : listed = (Array.range ops.size).map fun i => decide (i < n) := by
      apply Array.ext
      · simp [inv.size]
      · intro i h1 h2
        have hi : i < ops.size := by rw [← inv.size]; exact h1
        by_cases hin : i < n
        · have := hall i hin
          simp [h1] at this
          simp [this, hin]
        · have := inv.tail i (by omega) hi
          simp [h1] at this
          simp [this, hin]
    rw [Nat.zero_add]
    have hlen : (ops.toList.drop n).length = ops.size - n := by simp
    rw [← hlen]
    refine wpAny_of_seq (ops.toList.drop n) n listed (A u) W (fun j => by simp [List.getElem?_drop]) (by rw [hlen, he]; exact hseq) (fin u W hb hj (fun k hk => hr k (by rw [← both _ _ inv.size (by omega)]; exact hall k hk)))
  | succ fuel ih =>
    intro listed u W inv hl hcl hb hj hun hr
    rw [show fuel + 1 + (ops.size - n) = (fuel + (ops.size - n)) + 1 by omega]
    have hpos : 0 < (List.range n).countP fun i => !listed.getD i true := by
      have : leftOf n listed = fuel + 1 := hl
      unfold leftOf at this; omega
    obtain ⟨m, hm, hp⟩ := List.countP_pos_iff.1 hpos
    obtain ⟨i0, hi0m, hpi, hmin⟩ := least_of (p := fun i => listed.getD i true = false) m (by simpa using hp)
    have hi0 : i0 < n := by have := List.mem_range.1 hm; omega
    refine ⟨fun h0 => ?_, fun i hi => ?_⟩
    · exfalso
      have hi : i0 < ops.size := by omega
      obtain ⟨o, ho⟩ : ∃ o, ops[i0]? = some o := ⟨ops[i0], Array.getElem?_eq_getElem hi⟩
      have hm : i0 ∈ Region.ready md ops listed := mem_ready.2 ⟨hpi, o, ho, fun e he hbd => by
        have h1 := (hat i0 o ho).1 e he hbd
        have h2 := hmin e.on h1
        rw [both _ _ inv.size (by omega)] at h2
        simpa using h2⟩
      rw [h0] at hm
      cases hm
    · have hin : i < n := Nat.lt_of_not_le fun h => absurd hi (tail_waits hs hc hn inv _ i0 rfl hi0 hpi i h)
      obtain ⟨hu, o, ho, hall⟩ := mem_ready.1 hi
      have his : i < ops.size := (Array.getElem?_eq_some_iff.1 ho).1
      have hanci : ∀ j ∈ anc i, listed.getD j false = true := by
        intro j hj
        obtain ⟨_, e, he, hbd, h⟩ := (hat i o ho).2 j hj
        have hl1 := hall e he hbd
        rcases h with h | h
        · rw [← h]; exact hl1
        · exact hcl _ hl1 j h
      have huf : listed.getD i false = false := by rw [← both _ _ inv.size his]; exact hu
      have hst := spec i o hin ho u W hb hj (hun i huf) (fun j hj => hr j (hanci j hj)) (wpAny P md ops Q (fuel + (ops.size - n)) (listed.setIfInBounds i true)) ⟨fun v W' hstep hRJ => by
        obtain ⟨hRv, hJv⟩ := hRJ
        rw [hA u i v o ho]
        have hset : leftOf n (listed.setIfInBounds i true) + 1 = leftOf n listed :=
          countP_one _ _ i (by rw [hu]; rfl) (by have hin : i < listed.size := by rw [inv.size]; omega
                                                 simp [hin]) (fun j hj => by rw [getD_set_ne true (Ne.symm hj)]) _ List.nodup_range (List.mem_range.2 hin)
        refine ih _ _ _ (inv.set hi hin) (by omega) ?_ (hB _ _ hstep hb) hJv ?_ ?_
        · intro j hj k hk
          by_cases e : i = j
          · subst e; exact getD_set_true (hanci k hk)
          · rw [getD_set_ne false e] at hj; exact getD_set_true (hcl j hj k hk)
        · intro j hj
          by_cases e : i = j
          · subst e
            have hin : i < listed.size := by rw [inv.size]; omega
            simp [hin] at hj
          · rw [getD_set_ne false e] at hj
            unfold upd; rw [if_neg (Ne.symm e)]; exact hun j hj
        · intro j hj
          by_cases e : i = j
          · subst e
            have hm : (anc i).map (upd u i v) = (anc i).map u := List.map_congr_left (fun k hk => by
              have := ((hat i o ho).2 k hk).1
              unfold upd; rw [if_neg (by omega)])
            rw [hm, show upd u i v i = v by simp [upd]]
            exact hRv
          · rw [getD_set_ne false e] at hj
            have hm : (anc j).map (upd u i v) = (anc j).map u := List.map_congr_left (fun k hk => by
              have h1 := hcl j hj k hk
              have : k ≠ i := fun e => by rw [e, huf] at h1; cases h1
              unfold upd; rw [if_neg this])
            rw [hm, show upd u i v j = u j by unfold upd; rw [if_neg (Ne.symm e)]]
            exact hR _ _ _ _ _ hstep (hr j hj)⟩
      unfold wpOp
      rw [ho]
      dsimp only
      split
      · rename_i hw
        rw [if_pos hw] at hst
        exact .inl hst
      · rename_i hw
        rw [if_neg hw] at hst
        exact hst
theorem free_region_tail {id : Nat} {Q : Exit → Act → World → Prop} {a : Act} {w : World} (n : Nat) (A : (Nat → Value) → Act) (u0 : Nat → Value) (anc : Nat → List Nat) (Step : World → World → Prop) (B : World → Prop) (R : Nat → List Value → Value → World → Prop) (J : (Nat → Value) → World → Prop)
    (hm : P.follows .mixedOrders = true) (hn : n < ops.size) (hs : Region.sinkB .any ops n = true) (hc : Region.chainB .any ops n = true) (hseq : Region.seqB .any ops (ops.size - n) n ((Array.range ops.size).map fun i => decide (i < n)) = true)
    (hanc : ancB .any ops anc = true) (ha : A u0 = a) (hA : ∀ u k v o, ops[k]? = some o → (A u).put o.dst v = A (upd u k v)) (hB0 : B w.drew) (hJ0 : J u0 w.drew) (hB : ∀ W W', Step W W' → B W → B W')
    (hR : ∀ k us v W W', Step W W' → R k us v W → R k us v W')
    (spec : ∀ k o, k < n → ops[k]? = some o → ∀ u W, B W → J u W → u k = u0 k → (∀ j ∈ anc k, R j ((anc j).map u) (u j) W) → FreeStep P ops Q Step o (A u) W (fun v W' => R k ((anc k).map u) v W' ∧ J (upd u k v) W'))
    (fin : ∀ u W, B W → J u W → (∀ k, k < n → R k ((anc k).map u) (u k) W) → wpList P ops Q (ops.toList.drop n) (A u) W) : (Code.region id ops true).wp P Q a w := by
  refine wp_region_any hm ?_
  rw [← ha]
  have hrep : ∀ j, (Array.replicate ops.size false).getD j false = false := fun j => getD_replicate_false _ _
  have h := free_head hn hs hc hseq hanc hA hB hR spec fin (leftOf n (Array.replicate ops.size false)) (Array.replicate ops.size false) u0 w.drew
    ⟨by simp, fun j oj _ hl => (by rw [hrep] at hl; cases hl), fun t _ ht => getD_in (by simpa using ht) (hrep _)⟩ rfl (fun j hj => by rw [hrep] at hj; cases hj) hB0 hJ0 (fun _ _ => rfl) (fun j hj => by rw [hrep] at hj; cases hj)
  have hl : leftOf n (Array.replicate ops.size false) = n := by
    unfold leftOf
    rw [List.countP_eq_length.2 (fun i hi => by
      have hi' : i < n := List.mem_range.1 hi
      have : i < ops.size := by omega
      simp [this])]
    simp
  rw [hl, show n + (ops.size - n) = ops.size by omega] at h
  exact h
end
theorem rd_at (l : List Int) (i : Nat) (h : i < l.length) : rd l (i : Int) = l[i] := by simp [rd, h]
def digs : List UInt8 := [48, 49, 50, 51, 52, 53, 54, 55, 56, 57, 97, 98, 99, 100, 101, 102]
theorem digs_ascii (j : Nat) (b : UInt8) (h : digs[j]? = some b) : b.toNat < 128 := by
  have : ∀ x ∈ digs, x.toNat < 128 := by decide
  exact this b (List.mem_of_getElem? h)
def dg (c : UInt8) : Int := Lib.indexByte digs c
def isKey (s : ByteArray) : Bool := decide (s.size = 64) && s.data.toList.all (digs.contains ·)
def keyAt (l : List UInt8) (i : Nat) : List Int := (List.range 32).map fun j => (if 2 * j < i then 16 * dg (l.getD (2 * j) 0) else 0) + (if 2 * j + 1 < i then dg (l.getD (2 * j + 1) 0) else 0)
def keyRow (s : ByteArray) : List Int := keyAt s.data.toList 64
theorem dg_range (c : UInt8) (h : digs.contains c = true) : 0 ≤ dg c ∧ dg c ≤ 15 := by
  have : ∀ c ∈ digs, 0 ≤ dg c ∧ dg c ≤ 15 := by decide
  exact this c (by simpa using h)
theorem digs_low (c : UInt8) (h : digs.contains c = true) : c.toNat < 128 := by
  have : ∀ c ∈ digs, c.toNat < 128 := by decide
  exact this c (by simpa using h)
theorem keyAt_length (l : List UInt8) (i : Nat) : (keyAt l i).length = 32 := by simp [keyAt]
theorem keyAt_get (l : List UInt8) (i j : Nat) (hj : j < 32) : (keyAt l i)[j]? = some ((if 2 * j < i then 16 * dg (l.getD (2 * j) 0) else 0) + (if 2 * j + 1 < i then dg (l.getD (2 * j + 1) 0) else 0)) := by
  simp [keyAt, hj]
theorem keyAt_zero (l : List UInt8) : keyAt l 0 = List.replicate 32 0 := by
  apply List.ext_getElem? ; intro j
  by_cases hj : j < 32
  · rw [keyAt_get l 0 j hj, List.getElem?_replicate, if_pos hj]; simp
  · rw [List.getElem?_eq_none (by rw [keyAt_length]; omega), List.getElem?_eq_none (by simp; omega)]
theorem keyAt_even (l : List UInt8) (m : Nat) (hm : m < 32) : (keyAt l (2 * m)).set m (16 * dg (l.getD (2 * m) 0)) = keyAt l (2 * m + 1) := by
  apply List.ext_getElem? ; intro j
  by_cases hj : j < 32
  · rw [List.getElem?_set, keyAt_length, keyAt_get l _ j hj, keyAt_get l _ j hj]
    by_cases e : m = j
    · subst e; simp [hm]
    · rw [if_neg e]; congr 1
      simp only [show (2 * j < 2 * m) = (2 * j < 2 * m + 1) from by apply propext; omega, show (2 * j + 1 < 2 * m) = (2 * j + 1 < 2 * m + 1) from by apply propext; omega]
  · rw [List.getElem?_eq_none (by rw [List.length_set, keyAt_length]; omega), List.getElem?_eq_none (by rw [keyAt_length]; omega)]
theorem keyAt_odd (l : List UInt8) (m : Nat) (hm : m < 32) : (keyAt l (2 * m + 1)).set m (16 * dg (l.getD (2 * m) 0) + dg (l.getD (2 * m + 1) 0)) = keyAt l (2 * m + 1 + 1) := by
  apply List.ext_getElem? ; intro j
  by_cases hj : j < 32
  · rw [List.getElem?_set, keyAt_length, keyAt_get l _ j hj, keyAt_get l _ j hj]
    by_cases e : m = j
    · subst e; simp [hm]; omega
    · rw [if_neg e]; congr 1
      simp only [show (2 * j < 2 * m + 1) = (2 * j < 2 * m + 1 + 1) from by apply propext; omega, show (2 * j + 1 < 2 * m + 1) = (2 * j + 1 < 2 * m + 1 + 1) from by apply propext; omega]
  · rw [List.getElem?_eq_none (by rw [List.length_set, keyAt_length]; omega), List.getElem?_eq_none (by rw [keyAt_length]; omega)]
theorem or_even (q : Int) (h0 : 0 ≤ q) (h1 : q ≤ 15) : Go.bits .or .u8 0 (q * 16) = 16 * q := by
  have : ∀ n : Fin 16, Go.bits .or .u8 0 ((n.1 : Int) * 16) = 16 * (n.1 : Int) := by decide +kernel
  have h := this ⟨q.toNat, by omega⟩
  simpa [Int.toNat_of_nonneg h0] using h
theorem or_odd (p q : Int) (h0 : 0 ≤ p) (h1 : p ≤ 15) (h2 : 0 ≤ q) (h3 : q ≤ 15) : Go.bits .or .u8 (16 * p) q = 16 * p + q := by
  have : ∀ n m : Fin 16, Go.bits .or .u8 (16 * (n.1 : Int)) (m.1 : Int) = 16 * (n.1 : Int) + (m.1 : Int) := by decide +kernel
  have h := this ⟨p.toNat, by omega⟩ ⟨q.toNat, by omega⟩
  simpa [Int.toNat_of_nonneg h0, Int.toNat_of_nonneg h2] using h
theorem keyCells_set (l : List UInt8) (i j m : Nat) (v : Int) (h : (keyAt l i).set m v = keyAt l j) : (((keyAt l i).map (Value.int .u8)).toArray).setIfInBounds m (.int .u8 v) = ((keyAt l j).map (Value.int .u8)).toArray := by
  rw [← h]; simp [List.map_set]
theorem dropWhile_nil {α : Type} (p : α → Bool) (l : List α) : l.dropWhile p = [] ↔ ∀ x ∈ l, p x = true := by
  induction l with
  | nil => simp
  | cons a l ih =>
    rw [List.dropWhile_cons]
    by_cases h : p a = true
    · simp [h, ih]
    · simp [h]
theorem trimS_empty (l cs : List UInt8) : Lib.trimS l cs = [] ↔ l.all (cs.contains ·) = true := by
  unfold Lib.trimS Lib.trimLeftS Lib.trimRightS
  rw [dropWhile_nil]
  constructor
  · intro h
    by_cases hd : l.reverse.dropWhile (cs.contains ·) = []
    · rw [dropWhile_nil] at hd
      rw [List.all_eq_true]; intro x hx; exact hd x (by simpa using hx)
    · exfalso
      have hh := List.head_dropWhile_not (cs.contains ·) (l := l.reverse) hd
      have hm := h ((l.reverse.dropWhile (cs.contains ·)).head hd) (by rw [List.mem_reverse]; exact List.head_mem hd)
      rw [hm] at hh; cases hh
  · intro h x hx
    rw [List.all_eq_true] at h
    rw [List.mem_reverse] at hx
    exact h x (by have := (List.dropWhile_sublist (cs.contains ·) (l := l.reverse)).subset hx; simpa using this)
abbrev valR {α : Type} {d : Kd α} {e : Nat} {w : World} {base : Nat} {ok : Nat → Prop} {v : Value} {xs : List α} (_ : Kd.R d e w base ok v xs) : Value := v
end Go.Proofs.YtfffnogmkbbfkaaDoorW.PrintWords
