import Derived.Test.YtigbmfogfgbmfaaDoorX
import Derived.ChangeArms
import Derived.ChangeSame
import Derived.ChangeOld
import Derived.SizedLaws
import Derived.OpenShut
namespace Go.Proofs.YtigbmfogfgbmfaaDoorW.PrintWords
open Go.RowKit
def okInt (k : IntKind) (x : Int) : Prop := (Lit.int k x).wf = true
def okBool (_ : Bool) : Prop := True
def okStr (s : ByteArray) : Prop := s.size ≤ 140737488351232
def okRow {α : Type} (bytes : Nat) (ok : α → Prop) (l : List α) : Prop := l.length ≤ maxLen ∧ l.length * bytes ≤ 140737488351232 ∧ ∀ x ∈ l, ok x
def Opens {α : Type} (P : Program) (t : TypeId) (d : Kd α) (ok : α → Prop) : Prop :=
  ∀ {H : Type} {enc : TypeId × Value → H} {W : World} {base : Nat} {spare : Nat → Bool} {held : Bool} {fuel : Nat} {cs : List Value} {x : DataW H × List MemPlace},
    DataW.trod enc P W base spare held fuel t cs = some x → (∀ n ∈ DataW.weights P t x.1, n ≤ reachBytes) → ∃ a : α, d.K W a cs ∧ ok a
section
variable {P : Program} {α β : Type}
theorem Opens.int {t : TypeId} {k : IntKind} (ht : P.underlying t = some (.int k)) : Opens P t (Kd.int k) (okInt k) := by
  intro H enc W base spare held fuel cs x h _
  cases fuel with
  | zero => simp [DataW.trod] at h
  | succ n =>
    unfold DataW.trod at h
    rw [ht] at h
    split at h <;> first | (simp at h; done) | skip
    all_goals simp_all
    obtain ⟨⟨rfl, hw⟩, _⟩ := h
    exact ⟨_, rfl, hw⟩
theorem Opens.bool {t : TypeId} (ht : P.underlying t = some .bool) : Opens P t Kd.bool okBool := by
  intro H enc W base spare held fuel cs x h _
  cases fuel with
  | zero => simp [DataW.trod] at h
  | succ n =>
    unfold DataW.trod at h
    rw [ht] at h
    split at h <;> first | (simp at h; done) | skip
    all_goals simp_all
    rename_i b
    cases b
    · exact .inl ⟨rfl, trivial⟩
    · exact .inr ⟨rfl, trivial⟩
theorem Opens.string {t : TypeId} (ht : P.underlying t = some .string) : Opens P t Kd.string okStr := by
  intro H enc W base spare held fuel cs x h hw
  cases fuel with
  | zero => simp [DataW.trod] at h
  | succ n =>
    unfold DataW.trod at h
    rw [ht] at h
    split at h <;> first | (simp at h; done) | skip
    all_goals simp_all
    obtain ⟨_, rfl⟩ := h
    refine ⟨_, rfl, ?_⟩
    have := hw _ (by simp [DataW.weights]; rfl)
    simpa [okStr, reachBytes] using this
theorem cells_read {w : World} {base : Nat} {a : Addr} {n : Nat} {cs : List Value} (h : w.cells? base a n = some cs) : cs.length = n ∧ ∀ i u, cs[i]? = some u → w.cell? (a.add i) = some u := by
  unfold World.cells? at h
  split at h
  · have hl : cs.length = n := by
      have := mapM_some_length h
      simpa using this
    refine ⟨hl, fun i u hu => ?_⟩
    have hi : i < n := by have := (List.getElem?_eq_some_iff.1 hu).1; omega
    have := mapM_some_get h i i (by simp [hi])
    rw [this]; exact hu
  · simp at h
theorem addr_add_add (a : Addr) (i j : Nat) : (a.add i).add j = a.add (i + j) := by
  unfold Addr.add
  by_cases h1 : i = 0 <;> by_cases h2 : j = 0 <;> simp [h1, h2, Nat.add_assoc]
theorem weights_elem {H : Type} {t e : TypeId} {l r : List (DataW H)} (ht : P.underlying t = some (.slice e)) (hw : ∀ n ∈ DataW.weights P t (.slice l r), n ≤ reachBytes) :
    (l.length + r.length) * P.bytesOf e ≤ reachBytes ∧ ∀ d ∈ l, ∀ n ∈ DataW.weights P e d, n ≤ reachBytes := by
  have h0 : DataW.weights P t (.slice l r) = (l.length + r.length) * P.bytesOf e :: (DataW.weightsAll P e l ++ DataW.weightsAll P e r) := by simp [DataW.weights, ht]
  rw [h0] at hw
  refine ⟨hw _ (by simp), fun d hd n hn => hw n ?_⟩
  have : ∀ {l : List (DataW H)} {d : DataW H}, d ∈ l → ∀ n ∈ DataW.weights P e d, n ∈ DataW.weightsAll P e l := by
    intro l
    induction l with
    | nil => intro d hd; simp at hd
    | cons x l ih =>
      intro d hd n hn
      simp only [DataW.weightsAll, List.mem_append]
      rcases List.mem_cons.1 hd with rfl | hd
      · exact .inl hn
      · exact .inr (ih hd n hn)
  simp [this hd n hn]
theorem Opens.slice {t e : TypeId} {d : Kd α} {ok : α → Prop} {B : Nat} (ht : P.underlying t = some (.slice e)) (hc : P.cellsOf e = d.sz) (hB : P.bytesOf e = B) (he : Opens P e d ok) : Opens P t (Kd.slice e d) (okRow B ok) := by
  intro H enc W base spare held fuel cs x h hw
  rcases DataW.trod_slice ht h with ⟨rfl, rfl⟩ | ⟨a, len, cap, elems, rest, n, _, rfl, rfl, hb, hl, hm, hlen, hel, hsp, hns⟩
  · exact ⟨[], ⟨none, 0, rfl, Nat.le_refl _, Kd.C_nil d W⟩, by simp, by simp, fun x hx => by simp at hx⟩
  · obtain ⟨w1, w2⟩ := weights_elem ht hw
    have each : ∀ i : Fin len, ∃ a_ : α, ∃ ci, W.cells? base (a.add (i.1 * P.cellsOf e)) (P.cellsOf e) = some ci ∧ d.K W a_ ci ∧ ok a_ := by
      intro i
      have hi : i.1 < elems.length := by have := i.2; omega
      have h1 := hel i.1 i.2
      rw [List.getElem?_eq_getElem hi] at h1
      obtain ⟨ci, h2, h3⟩ := Option.bind_eq_some_iff.1 h1
      obtain ⟨a_, k1, k2⟩ := he h3 (w2 _ (List.mem_map_of_mem (List.getElem_mem hi)))
      exact ⟨a_, ci, h2, k1, k2⟩
    let f : Fin len → α := fun i => Classical.choose (each i)
    have hf : ∀ i : Fin len, ∃ ci, W.cells? base (a.add (i.1 * P.cellsOf e)) (P.cellsOf e) = some ci ∧ d.K W (f i) ci ∧ ok (f i) := fun i => Classical.choose_spec (each i)
    have hl2 : (List.ofFn f).length = len := by simp
    have hmax : len ≤ 9223372036854775807 := by have : cap ≤ 9223372036854775807 := hm; omega
    have hC : Kd.C d W (some a) len (List.ofFn f) := by
      refine ⟨hl2, hmax, fun _ => ⟨a, rfl, fun j p hj => ?_⟩⟩
      have hjl : j < len := by have := (List.getElem?_eq_some_iff.1 hj).1; rwa [hl2] at this
      have hp : f ⟨j, hjl⟩ = p := by
        rw [List.getElem?_ofFn] at hj
        simpa [hjl] using hj
      obtain ⟨ci, c1, c2, _⟩ := hf ⟨j, hjl⟩
      rw [hp] at c2
      obtain ⟨r1, r2⟩ := cells_read c1
      refine ⟨ci, by rw [r1, hc], c2, fun i u hu => ?_⟩
      have := r2 i u hu
      rw [addr_add_add, hc] at this
      exact this
    refine ⟨List.ofFn f, ⟨some a, cap, by rw [hl2], by rw [hl2]; exact hl, by rw [hl2]; exact hC⟩, by rw [hl2]; exact Nat.le_trans hl hm, ?_, ?_⟩
    · rw [hl2, ← hB]
      have : len * P.bytesOf e ≤ ((elems.map (·.1)).length + (rest.map (·.1)).length) * P.bytesOf e := Nat.mul_le_mul_right _ (by simp; omega)
      exact Nat.le_trans this w1
    · intro y hy
      obtain ⟨i, rfl⟩ := List.mem_ofFn.1 hy
      obtain ⟨_, _, _, c3⟩ := hf i
      exact c3
def OpensFs {α : Type} (P : Program) (fs : List Field) (o : Nat) (d : Kd α) (ok : α → Prop) : Prop :=
  ∀ {H : Type} {enc : TypeId × Value → H} {W : World} {base : Nat} {spare : Nat → Bool} {held : Bool} {n : Nat} {cs : List Value} {xs : List (DataW H × List MemPlace)},
    cs.length = o + d.sz → xs.length = fs.length → (∀ (i : Nat) (f : Field), fs[i]? = some f → DataW.trod enc P W base spare held n f.type ((cs.drop f.offset).take (P.cellsOf f.type)) = xs[i]?) →
    (∀ k ∈ DataW.weightsEach P (fs.map (·.type)) (xs.map (·.1)), k ≤ reachBytes) → ∃ a : α, d.K W a (cs.drop o) ∧ ok a
theorem OpensFs.last {f : Field} {o : Nat} {d : Kd α} {ok : α → Prop} (ho : f.offset = o) (hc : P.cellsOf f.type = d.sz) (h : Opens P f.type d ok) : OpensFs P [f] o d ok := by
  intro H enc W base spare held n cs xs hl hx ht hw
  obtain ⟨x, rfl⟩ : ∃ x, xs = [x] := by
    match xs, hx with
    | [x], _ => exact ⟨x, rfl⟩
  have h1 := ht 0 f rfl
  rw [ho, hc, List.take_of_length_le (by rw [List.length_drop]; omega)] at h1
  exact h h1 (fun k hk => hw k (by simp [DataW.weightsEach, hk]))
theorem OpensFs.step {f : Field} {fs : List Field} {o : Nat} {d1 : Kd α} {d2 : Kd β} {ok1 : α → Prop} {ok2 : β → Prop} (ho : f.offset = o) (hc : P.cellsOf f.type = d1.sz) (h1 : Opens P f.type d1 ok1) (h2 : OpensFs P fs (o + d1.sz) d2 ok2) :
    OpensFs P (f :: fs) o (Kd.pair d1 d2) (fun p => ok1 p.1 ∧ ok2 p.2) := by
  intro H enc W base spare held n cs xs hl hx ht hw
  have hl' : cs.length = o + (d1.sz + d2.sz) := hl
  obtain ⟨x, xs, rfl⟩ := List.exists_cons_of_length_eq_add_one hx
  have e1 := ht 0 f rfl
  rw [ho, hc] at e1
  obtain ⟨a, k1, o1⟩ := h1 e1 (fun k hk => hw k (by simp [DataW.weightsEach, hk]))
  obtain ⟨b, k2, o2⟩ := h2 (cs := cs) (xs := xs) (by omega) (by simpa using hx) (fun i g hg => by have := ht (i + 1) g (by simpa using hg); simpa using this) (fun k hk => hw k (by simp [DataW.weightsEach, hk]))
  refine ⟨(a, b), ⟨_, _, ?_, k1, k2⟩, o1, o2⟩
  rw [← List.drop_drop, List.take_append_drop]
theorem Opens.struct {t : TypeId} {fs : Array Field} {d : Kd α} {ok : α → Prop} (ht : P.underlying t = some (.struct fs)) (hc : P.cellsOf t = d.sz) (h : OpensFs P fs.toList 0 d ok) : Opens P t d ok := by
  intro H enc W base spare held fuel cs x hx hw
  obtain ⟨xs, n, _, rfl, hl, hlen, hf⟩ := DataW.trod_struct ht hx
  have hw2 : ∀ k ∈ DataW.weightsEach P (fs.toList.map (·.type)) (xs.map (·.1)), k ≤ reachBytes := fun k hk => hw k (by simp only [DataW.weights, ht]; exact hk)
  obtain ⟨a, k1, k2⟩ := h (cs := cs) (xs := xs) (by omega) (by simpa using hlen) (fun i f hi => hf i f (by simpa using hi)) hw2
  exact ⟨a, by simpa using k1, k2⟩
theorem Opens.param {t : TypeId} {d : Kd α} {ok : α → Prop} (h : Opens P t d ok) {H : Type} {enc : TypeId × Value → H} {W : World} {base : Nat} {spare : Nat → Bool} {held : Bool} {v : Value} {x : DataW H} {ps : List MemPlace} {ts : List TypeId} {ds : List (DataW H)} {j : Nat}
    (hsz : (DataW.weightsEach P ts ds).all (· ≤ reachBytes) = true) (ht : ts[j]? = some t) (hd : ds[j]? = some x) (hx : DataW.Trod enc P W base spare held t v x ps) : ∃ a : α, d.K W a v.cells.toList ∧ ok a := by
  obtain ⟨fuel, hf⟩ := hx
  exact h hf (fun n hn => by
    have := List.all_eq_true.1 hsz _ (DataW.weights_mem_each ht hd n hn)
    simpa using this)
theorem slice_of {A B : Option Addr} {n m c k : Nat} (h : (Value.slice A n c).cells.toList = [.slice B m k]) : A = B ∧ n = m ∧ c = k := by
  have : [Value.slice A n c] = [.slice B m k] := h
  simpa using this
end
abbrev oI_ := @Option.some.injEq
abbrev pI_ := @Prod.mk.injEq
abbrev oJ_ := @Option.some.inj
abbrev mC_ := @List.map_cons
abbrev mN_ := @List.map_nil
abbrev rR_ := @Kd.R_reads'
abbrev oB_ := @Option.bind_some
abbrev oD_ := @of_decide_eq_true
abbrev dT_ := @decide_eq_true
abbrev bZ_ := @below_size
abbrev bT_ := @below_step
abbrev lD_ := @List.length_drop
abbrev lT_ := @List.length_take
abbrev mA_ := @List.map_toArray
abbrev rF_ := @Kd.R_far
abbrev kB_ := @blk_below
abbrev kA_ := @blk_alloc
abbrev kN_ := @blk_drewN
abbrev kD_ := @blk_drew
abbrev bS_ := @below_set
abbrev kF_ := @blk_frozen
abbrev kC_ := @blk_cell
abbrev sA_ := @List.setIfInBounds_toArray
abbrev sZ_ := @List.set_cons_zero
abbrev sS_ := @List.set_cons_succ
abbrev aM_ := @Aside0.mk
abbrev bN_ := @pw_below_drewN
abbrev bD_ := @below_drew1
abbrev bA_ := @below_alloc
abbrev rA_ := @Kd.R_alloc
abbrev rN_ := @Kd.R_drewN
abbrev rD_ := @Kd.R_drew
abbrev lC_ := @World.block_lt_of_cell?
theorem pU_ : (∀ (l : List Value) (i : Nat) (a : Value), l.toArray.setIfInBounds i a = (l.set i a).toArray) ∧ (∀ (x y : Value) (l : List Value), (x :: l).set 0 y = y :: l) ∧ (∀ (x y : Value) (l : List Value) (i : Nat), (x :: l).set (i + 1) y = x :: l.set i y) ∧ (∀ x : Int, IntKind.i64.wrap x = wrap64 x) ∧ (∀ x : Int, IntKind.i32.wrap x = wrap32 x) := ⟨fun _ _ _ => List.setIfInBounds_toArray .., fun _ _ _ => rfl, fun _ _ _ _ => rfl, PrintLast.i64_w, PrintLast.i32_w⟩
def mB_ (n k : Nat) : Array Bool := ((List.range n).map fun i => k.testBit i).toArray
theorem kZ_ {P Q : Prop} (h : P) (f : P → Q := by intro h_; (with_reducible repeat (first | refine blk_drewN ?_ _ | refine blk_drew ?_ | refine blk_alloc ?_ _)); exact h_) : Q := f h
theorem kY_ {P Q R : Prop} (h : P) (h' : R) (f : P → R → Q := by intro h_ n_; (with_reducible repeat (first | refine blk_drewN ?_ _ | refine blk_drew ?_ | refine blk_alloc ?_ _ | refine blk_far ?_ n_ _)); exact h_) : Q := f h h'
theorem rZ_ {P Q : Prop} (h : P) (f : P → Q := by intro h_; (with_reducible repeat (first | apply Kd.R_alloc | apply Kd.R_drewN | apply Kd.R_drew)); exact h_) : Q := f h
theorem bZ0_ {P Q : Prop} (h : P) (f : P → Q := by intro h_; repeat (first | (with_reducible first | exact h_ | apply below_alloc | apply pw_below_drewN | apply below_drew1) | exact h_)) : Q := f h
theorem bZ1_ {P A0 Q : Prop} (h : P) (g0 : A0) (f : P → A0 → Q := by intro h_ q0; repeat (first | (with_reducible first | exact h_ | apply below_alloc | apply pw_below_drewN | apply below_drew1 | refine below_set ?_ q0) | exact h_)) : Q := f h g0
theorem bZ2_ {P A0 A1 Q : Prop} (h : P) (g0 : A0) (g1 : A1) (f : P → A0 → A1 → Q := by intro h_ q0 q1; repeat (first | (with_reducible first | exact h_ | apply below_alloc | apply pw_below_drewN | apply below_drew1 | refine below_set ?_ q0 | refine below_set ?_ q1) | exact h_)) : Q := f h g0 g1
theorem bZ3_ {P A0 A1 A2 Q : Prop} (h : P) (g0 : A0) (g1 : A1) (g2 : A2) (f : P → A0 → A1 → A2 → Q := by intro h_ q0 q1 q2; repeat (first | (with_reducible first | exact h_ | apply below_alloc | apply pw_below_drewN | apply below_drew1 | refine below_set ?_ q0 | refine below_set ?_ q1 | refine below_set ?_ q2) | exact h_)) : Q := f h g0 g1 g2
theorem bZ4_ {P A0 A1 A2 A3 Q : Prop} (h : P) (g0 : A0) (g1 : A1) (g2 : A2) (g3 : A3) (f : P → A0 → A1 → A2 → A3 → Q := by intro h_ q0 q1 q2 q3; repeat (first | (with_reducible first | exact h_ | apply below_alloc | apply pw_below_drewN | apply below_drew1 | refine below_set ?_ q0 | refine below_set ?_ q1 | refine below_set ?_ q2 | refine below_set ?_ q3) | exact h_)) : Q := f h g0 g1 g2 g3
theorem bZ5_ {P A0 A1 A2 A3 A4 Q : Prop} (h : P) (g0 : A0) (g1 : A1) (g2 : A2) (g3 : A3) (g4 : A4) (f : P → A0 → A1 → A2 → A3 → A4 → Q := by intro h_ q0 q1 q2 q3 q4; repeat (first | (with_reducible first | exact h_ | apply below_alloc | apply pw_below_drewN | apply below_drew1 | refine below_set ?_ q0 | refine below_set ?_ q1 | refine below_set ?_ q2 | refine below_set ?_ q3 | refine below_set ?_ q4) | exact h_)) : Q := f h g0 g1 g2 g3 g4
section
variable {P : Program} {md : Region.Mode} {ops : Array Oper} {Q : Exit → Act → World → Prop} {S : World → Prop} {ds : List Nat}
theorem pz_ {i : Nat} {N : Option Tmp} {oi : Oper} {v : Value} {fuel : Nat} {l : Array Bool} {a : Act} {w : World} (l' : Array Bool) (hc : PrintLast.anyB md ops l l' i = true) {a' : Act} (hi : ops[i]? = some oi := by rfl) (hN : oi.dst = N := by rfl) (hQ : ∀ c a w, Q (.panic c) (a.put oi.dst v) w → Q (.panic c) a w := by exact fun _ _ _ h => h) (hy : Yields P ops oi v a := by exact Or.inl ⟨by rfl, by intro w'; go_simp; (with_reducible rfl)⟩) (ha : a.put N v = a' := by simp only [Act.put, pU_]; rfl) (h : PrintLast.wpAnyLast P md ops Q S ds fuel l' a' w) : PrintLast.wpAnyLast P md ops Q S ds (fuel + 1) l a w := PrintLast.pure_ l' hi hN hc hQ hy ha h
end
theorem kc0_ {w : World} {g : Nat} {t : TypeId} {a0 : Value} {l : List Value} (h : w.heap[g]? = some (.cells (a0 :: l).toArray t (0, 0))) : w.cell? ⟨g, 0, none⟩ = some a0 := (blk_cell h 0).trans rfl
theorem kc1_ {w : World} {g : Nat} {t : TypeId} {a0 a1 : Value} {l : List Value} (h : w.heap[g]? = some (.cells (a0 :: a1 :: l).toArray t (0, 0))) : w.cell? ⟨g, 1, none⟩ = some a1 := (blk_cell h 1).trans rfl
theorem kc2_ {w : World} {g : Nat} {t : TypeId} {a0 a1 a2 : Value} {l : List Value} (h : w.heap[g]? = some (.cells (a0 :: a1 :: a2 :: l).toArray t (0, 0))) : w.cell? ⟨g, 2, none⟩ = some a2 := (blk_cell h 2).trans rfl
theorem kc3_ {w : World} {g : Nat} {t : TypeId} {a0 a1 a2 a3 : Value} {l : List Value} (h : w.heap[g]? = some (.cells (a0 :: a1 :: a2 :: a3 :: l).toArray t (0, 0))) : w.cell? ⟨g, 3, none⟩ = some a3 := (blk_cell h 3).trans rfl
theorem cZ_ {P Q : Prop} (h : P) (f : P → Q := by intro h_; repeat (first | exact h_ | (with_reducible refine Kd.C_alloc ?_ _) | (with_reducible refine Kd.C_drewN ?_ _) | (with_reducible refine Kd.C_drew ?_))) : Q := f h
theorem yZ_ {P Q R : Prop} (h : P) (e : R) (f : P → R → Q := by intro H e_; first | (rw [e_]; with_reducible exact H) | (have H2_ := (Option.bind_some _ _).symm.trans H; rw [e_]; with_reducible exact H2_) | (have H2_ := (Option.bind_some _ _).symm.trans H; with_reducible exact H2_) | with_reducible exact H | (rw [e_]; exact H) | exact H) : Q := f h e
theorem k6_ {w : World} {g : Nat} {t : TypeId} {a b c : Value} (h : w.heap[g]? = some (.cells #[a, b, c] t (0, 0))) : w.cell? ⟨g, 0, none⟩ = some a ∧ w.cell? ⟨g, 1, none⟩ = some b ∧ w.cell? ⟨g, 2, none⟩ = some c ∧ w.frozen? ⟨g, 0, none⟩ = false ∧ w.frozen? ⟨g, 1, none⟩ = false ∧ w.frozen? ⟨g, 2, none⟩ = false := ⟨(blk_cell h 0).trans rfl, (blk_cell h 1).trans rfl, (blk_cell h 2).trans rfl, blk_frozen h 0, blk_frozen h 1, blk_frozen h 2⟩
end Go.Proofs.YtigbmfogfgbmfaaDoorW.PrintWords
