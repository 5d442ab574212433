import Derived.Test.YtbnkcbfhappgnaaDoorHx0
import Derived.Test.YtbnkcbfhappgnaaDoorHx5
import Derived.Test.YtbnkcbfhappgnaaDoorHx10
namespace Go.Proofs.YtbnkcbfhappgnaaDoor.Fn
set_option maxHeartbeats 8000000
set_option maxRecDepth 100000
open Go.RowKit Go.Proofs.YtbnkcbfhappgnaaDoorW.PrintWords Go.Proofs.YtbnkcbfhappgnaaDoorW.PrintLast Go.Proofs.YtbnkcbfhappgnaaDoorW.PrintMore
attribute [local go_sem] max2_int min2_int max_two min_two max_three min_three max_four min_four
set_option linter.unusedVariables false
set_option linter.unusedSimpArgs false
def l12_made.f (k : Nat) (a0 : Int) (l1 : List Int) : Option (Int × ByteArray × List Int) := (q07_Of.f k a0 l1).bind fun t371 => (some (a0, t371, l1))
theorem l12_made.mono : ∀ a0 a1 k, LeO (l12_made.f k a0 a1) (l12_made.f (k + 1) a0 a1) := by
 intro a0 a1 k; unfold l12_made.f
 repeat' first
     | (with_reducible exact q07_Of.mono _ _ _)
     | (with_reducible exact LeO.refl _)
     | (with_reducible exact LeO.none _)
     | (with_reducible refine LeO.ite ?_ ?_)
     | (with_reducible refine LeO.bind ?_ (fun _ => ?_))
     | exact LeO.none _
     | refine LeO.ite ?_ ?_
     | refine LeO.bind ?_ (fun _ => ?_)
theorem l12_made.calls (k : Nat) (a0 : Int) (P1_ : Nat → Prop) (A1 : Option Addr) (c1 : Nat) (l1 : List Int) (r1 : Int) (r2 : ByteArray) (r3 : List Int) (w : World) (hs1 : Kd.V (Kd.int .u8) 5 w w.heap.size (fun k_ => P1_ k_) (.slice A1 l1.length c1) l1) (h : l12_made.f k a0 l1 = some (r1, r2, r3)) :
    Calls Tryd.prog 9 #[.int .i64 a0, .slice A1 l1.length c1] w fun e w' => ∃ v2_ : Value, e = .returned (.agg #[.int .i64 r1, .string r2, v2_]) ∧ Kd.V (Kd.int .u8) 5 w' w.heap.size (fun k_ => (P1_ k_ ∨ w.heap.size ≤ k_)) v2_ r3 ∧ Below w.heap.size w w' := by
 have hu29 := Tryd.underlying29; have HO1 := aM_ (show Kd.V (Kd.int .u8) 5 w w.heap.size (fun k_ => (P1_ k_ ∨ w.heap.size ≤ k_)) (.slice A1 l1.length c1) l1 from Kd.V_mono hs1 (fun k_ hk => .inl hk)); have HB := aM_ (Below.refl w.heap.size w); have H : ((q07_Of.f k a0 l1).bind fun t371 => (some (a0, t371, l1))) = some (r1, r2, r3) := h; clear h; replace H := Option.bind_eq_some_iff.mp H; obtain ⟨t371, A30, H⟩ := H; replace H : (some (a0, t371, l1)) = some (r1, r2, r3) := H; have A3 := aM_ A30; clear A30; simp only [oI_, pI_] at H; obtain ⟨rfl, rfl, rfl⟩ := H; (go_enter Tryd.func9, Tryd.ntmps9)
 go_wp2_with (first | ((with_reducible refine gate_dst (N := 4) rfl ?_); refine box_event ?hg (N := 4) ?hd (cs := #[.int .i64 0, .string (⟨#[]⟩ : ByteArray), .slice none 0 0]) (t := 29) ?hr ?_; (case hd => rfl); (case hg => rfl); (case hr => first | (go_simp; done) | (go_simp; rfl)); intro gb370 hg w4 hbox hb; have n0_ := aM_ (Kd.V_below (Kd.V_elderB (by (with_reducible repeat (first | apply Kd.V_alloc | apply Kd.V_drewN | apply Kd.V_drew)); exact HO1.out) gb370 (Nat.le_of_eq hg.symm)) hb); have n1_ := aM_ (bT_ (bZ0_ HB.out) hb); have n2_ := aM_ (hbox); have n3_ := aM_ ((by rw [hg]; exact (bZ_ (bZ0_ HB.out)) : w.heap.size ≤ gb370)); have n4_ := aM_ ((by rw [hg]; exact (bZ_ (bZ0_ HB.out)) : w.heap.size ≤ gb370)); clear HO1; clear HB; have HO1 := n0_; have HB := n1_; have BK370 := n2_; have GW370 := n3_; have GE370 := n4_; clear n0_ n1_ n2_ n3_ n4_; clear hb hbox hg) | ((with_reducible refine gate_callee (f := 17) rfl ?_); refine goesL_ (some 8) rfl rfl Tryd.func17 (by kernel_rfl) rfl #[.int .i64 a0, .slice A1 l1.length c1] rfl (by (try simp only [mA_, mC_, mN_]); first | done | rfl | (simp only [lD_, lT_]; rfl)) ?_; (with_reducible refine (q07_Of.calls k a0 _ _ l1 t371 _ ?side1 ?side2 A3.out).mono ?_); (case side1 => exact cZ_ (Kd.V_reads' HO1.out).2.2); (case side2 => exact (Kd.V_reads' HO1.out).2.1); rintro e w5 ⟨rfl, hb⟩; refine ⟨_, rfl, ?_⟩; have n0_ := aM_ (Kd.V_below (by (with_reducible repeat (first | apply Kd.V_alloc | apply Kd.V_drewN | apply Kd.V_drew)); exact HO1.out) hb); have n1_ := aM_ (kB_ (g := gb370) (o := .cells #[.int .i64 0, .string (⟨#[]⟩ : ByteArray), .slice none 0 0] 29 (0, 0)) (kZ_ BK370.out) hb); have n2_ := aM_ (bT_ (bZ1_ HB.out GE370.out) hb); clear HO1; clear BK370; clear HB; have HO1 := n0_; have BK370 := n1_; have HB := n2_; clear n0_ n1_ n2_; (try clear hb); (try clear hb2); (try clear hk); (try clear hi); obtain ⟨hcz6_0, hcz6_1, hcz6_2, hfz6_0, hfz6_1, hfz6_2⟩ := k6_ BK370.out))
 refine bodyPost_ret (results_cell_row rfl _ _ gb370 29 #[.int .i64 a0, .string t371, .slice A1 l1.length c1] (0, 0) _ rfl (by (with_reducible repeat (first | refine kN_ ?_ _ | refine kD_ ?_ | refine kA_ ?_ _)); refine blk_put (cs := #[.int .i64 a0, .string t371, .slice none 0 0]) ?_ 2 _ rfl; (with_reducible repeat (first | refine kN_ ?_ _ | refine kD_ ?_ | refine kA_ ?_ _)); refine blk_put (cs := #[.int .i64 a0, .string (⟨#[]⟩ : ByteArray), .slice none 0 0]) ?_ 1 _ rfl; (with_reducible repeat (first | refine kN_ ?_ _ | refine kD_ ?_ | refine kA_ ?_ _)); refine blk_put (cs := #[.int .i64 0, .string (⟨#[]⟩ : ByteArray), .slice none 0 0]) ?_ 0 _ rfl; exact kZ_ BK370.out) Tryd.underlying29 rfl (by kernel_rfl)) rfl ?_; (exact ⟨_, by first | rfl | (simp [errW_none, errW_some] <;> rfl) | (simp [*, errW_none, errW_some] <;> rfl), by (with_reducible repeat (first | apply Kd.V_alloc | apply Kd.V_drewN | apply Kd.V_drew)); exact Kd.V_mono (Kd.V_far (p := ⟨gb370, 2, none⟩) (Kd.V_far (p := ⟨gb370, 1, none⟩) (Kd.V_far (p := ⟨gb370, 0, none⟩) (Kd.V_mono HO1.out (fun k_ hk => (⟨hk, hk.2⟩ : _ ∧ k_ ≠ gb370))) (fun _ hk => hk.2) (.int .i64 a0)) (fun _ hk => hk.2) (.string t371)) (fun _ hk => hk.2) (.slice A1 l1.length c1)) (fun _ hk => hk.1.1), by exact bZ1_ HB.out GE370.out⟩)
def frame_IsErr (w : World) (v : Value) (c : Int) : Prop := (v = .nilIface ∧ c = 0) ∨ (c ≠ 0 ∧ ∃ (g : Nat) (p : Int), v = .iface 89 (.pointer (some ⟨g, 0, none⟩)) ∧ w.heap[g]? = some (.cells #[.int .i64 p, .int .i64 c] 91 (0, 0)))
theorem frame_IsErr.step {w w' : World} {v : Value} {c : Int} (h : frame_IsErr w v c) (hk : ∀ (g : Nat) (cs : Array Value), w.heap[g]? = some (.cells cs 91 (0, 0)) → w'.heap[g]? = some (.cells cs 91 (0, 0))) : frame_IsErr w' v c := by
 rcases h with h | ⟨h0, g, p, hv, hg⟩
 (· exact .inl h); (· exact .inr ⟨h0, g, p, hv, hk g _ hg⟩)
def frame_no.f (a0 : Int) (a1 : Int) : Option Int := if a1 = 0 then none else some a1
set_option maxHeartbeats 4000000 in
theorem frame_no.calls (a0 : Int) (a1 : Int) (r : Int) (w : World) (h : frame_no.f a0 a1 = some r) :
    Calls Tryd.prog 42 #[.int .i64 a0, .int .i64 a1] w fun e w' => ∃ v_ : Value, e = .returned v_ ∧ frame_IsErr w' v_ r ∧ Below w.heap.size w w' := by
 unfold frame_no.f at h; (by_cases h0 : a1 = 0); (· rw [if_pos h0] at h; cases h); rw [if_neg h0] at h; obtain rfl := oJ_ h; have HN := aM_ h0; clear h h0; (go_enter Tryd.func42, Tryd.ntmps42); go_wp2; go_ret; exact ⟨_, rfl, .inr ⟨HN.out, _, _, rfl, blk_new w _⟩, bA_ (Below.refl _ _) _⟩
section
open Go.Extern.Stop Go.Stop Go.Extern
theorem as_nil (t : Value) (w : World) :
    Calls Tryd.prog 69 #[.nilIface, t] w fun e w' => e = .returned (.bool false) ∧ w' = w := by
 (go_enter Tryd.func69, Tryd.ntmps69); go_wp2; go_ret; exact ⟨rfl, rfl⟩
theorem as_valueOfPP (t : Addr) (w : World) : (ReflectliteValue.unpack (.iface 108 (.pointer (some t)))).run Tryd.prog w
    = .ok (.agg #[.pointer (some ⟨1, 108, none⟩), .pointer (some ⟨w.heap.size, 0, none⟩), .int .u64 150]) (w.alloc (.cells #[.pointer (some t)] 108)) := by kernel_rfl
theorem as_typePP (a : Addr) (w : World) : (ReflectliteValue.methodAny (ReflectliteValue.valueError "reflectlite.Value.Type" 0) (fun t _ _ _ => ReflectliteType.toType t) #[.agg #[.pointer (some ⟨1, 108, none⟩), .pointer (some a), .int .u64 150]]).run Tryd.prog w
    = .ok (.iface 112 (.agg #[.pointer (some ⟨1, 108, none⟩)])) w := by kernel_rfl
theorem as_methodKind (h : Value) (w : World) : (Go.method 272 112 (.agg #[h]) "Kind").run Tryd.prog w = .ok (98, h) w := by kernel_rfl
theorem as_kindPP (w : World) : ((ReflectliteType.abiMethod fun t => (fun a : Nat => Value.int IntKind.u8 (a : Int)) <$> Rtype.kind t) #[.pointer (some ⟨1, 108, none⟩)]).run Tryd.prog w = .ok (.int .u8 22) w := by kernel_rfl
theorem as_kindP (w : World) : ((ReflectliteType.abiMethod fun t => (fun a : Nat => Value.int IntKind.u8 (a : Int)) <$> Rtype.kind t) #[.pointer (some ⟨1, 104, none⟩)]).run Tryd.prog w = .ok (.int .u8 22) w := by kernel_rfl
theorem as_rlm (z : Sem Value) (f : TypeId → Addr → Nat → Nat → Sem Value) (v : Value) :
    ReflectliteValue.method z f #[v] = (do match ← ReflectliteValue.parts v with | none => z | some (t, a, fl) => f t a fl (fl % 32)) := rfl
theorem as_partsPP (a : Addr) (w : World) : (ReflectliteValue.parts (.agg #[.pointer (some ⟨1, 108, none⟩), .pointer (some a), .int .u64 150])).run Tryd.prog w = .ok (some (108, a, 150)) w := by kernel_rfl
theorem as_isNilPP (a p : Addr) (W : World) (ha : W.cell? a = some (.pointer (some p))) :
    (ReflectliteValue.method (ReflectliteValue.valueError "reflectlite.Value.IsNil" 0) ReflectliteValue.isNil #[.agg #[.pointer (some ⟨1, 108, none⟩), .pointer (some a), .int .u64 150]]).run Tryd.prog W = .ok (.bool false) W := by
 rw [as_rlm]; simp only [Sem.run_bind, as_partsPP, Result.andThen]; simp [ReflectliteValue.isNil, loadVar, isAgg, underlying, Tryd.underlying108, ha, Result.andThen]
theorem as_methodElem (h : Value) (w : World) : (Go.method 272 112 (.agg #[h]) "Elem").run Tryd.prog w = .ok (108, .agg #[h]) w := by kernel_rfl
theorem as_methodImplements (h : Value) (w : World) : (Go.method 272 112 (.agg #[h]) "Implements").run Tryd.prog w = .ok (109, .agg #[h]) w := by kernel_rfl
theorem as_methodAssignableTo (h : Value) (w : World) : (Go.method 272 112 (.agg #[h]) "AssignableTo").run Tryd.prog w = .ok (106, .agg #[h]) w := by kernel_rfl
theorem as_elemPP (w : World) : (ReflectliteType.method ReflectliteType.elem #[.agg #[.pointer (some ⟨1, 108, none⟩)]]).run Tryd.prog w = .ok (.iface 112 (.agg #[.pointer (some ⟨1, 104, none⟩)])) w := by kernel_rfl
theorem as_implementsP (w : World) : (ReflectliteType.relation "Implements" ReflectliteType.implements_ #[.agg #[.pointer (some ⟨1, 104, none⟩)], .iface 112 (.agg #[.pointer (some ⟨1, 58, none⟩)])]).run Tryd.prog w = .ok (.bool true) w := by kernel_rfl
theorem as_typeOfP (v : Value) (w : World) : (ReflectliteType.typeOf #[.iface 104 v]).run Tryd.prog w = .ok (.iface 112 (.agg #[.pointer (some ⟨1, 104, none⟩)])) w := by kernel_rfl
theorem as_assignableP (w : World) : (ReflectliteType.relation "AssignableTo" ReflectliteType.assignableTo #[.agg #[.pointer (some ⟨1, 104, none⟩)], .iface 112 (.agg #[.pointer (some ⟨1, 104, none⟩)])]).run Tryd.prog w = .ok (.bool true) w := by kernel_rfl
theorem as_valueOfP (e : Addr) (w : World) : (ReflectliteValue.unpack (.iface 104 (.pointer (some e)))).run Tryd.prog w
    = .ok (.agg #[.pointer (some ⟨1, 104, none⟩), .pointer (some ⟨w.heap.size, 0, none⟩), .int .u64 150]) (w.alloc (.cells #[.pointer (some e)] 104)) := by kernel_rfl
theorem as_elemOfPP (w : World) : (Rtype.elem? 108).run Tryd.prog w = .ok (some 104) w := by kernel_rfl
theorem as_mkP (p : Addr) (w : World) : (ReflectliteValue.mk 104 p ReflectliteValue.flagAddr).run Tryd.prog w = .ok (.agg #[.pointer (some ⟨1, 104, none⟩), .pointer (some p), .int .u64 406]) w := by kernel_rfl
theorem as_elemVPP (a p : Addr) (W : World) (ha : W.cell? a = some (.pointer (some p))) :
    (ReflectliteValue.method (ReflectliteValue.valueError "reflectlite.Value.Elem" 0) ReflectliteValue.elem #[.agg #[.pointer (some ⟨1, 108, none⟩), .pointer (some a), .int .u64 150]]).run Tryd.prog W
      = .ok (.agg #[.pointer (some ⟨1, 104, none⟩), .pointer (some p), .int .u64 406]) W := by
  rw [as_rlm]
  simp only [Sem.run_bind, as_partsPP, Result.andThen]
  simp [ReflectliteValue.elem, loadVar, isAgg, underlying, Tryd.underlying108, ha, Result.andThen, as_elemOfPP, as_mkP]
theorem as_rls (v x : Value) : ReflectliteValue.set #[v, x] = (do
    let (some (dst, a, fl), some (src, b, _)) := (← ReflectliteValue.parts v, ← ReflectliteValue.parts x)
      | unsupported (.noEntry "extern/(internal/reflectlite.Value).Set.zeroValue")
    if fl / ReflectliteValue.flagAddr % 2 == 0 then unsupported (.noEntry "extern/(internal/reflectlite.Value).Set.unaddressable")
    let val ← loadVar src b
    if ← Rtype.directlyAssignable dst src then storeVar dst a val
    else if ← Rtype.implements dst src then
      if (← Rtype.kind src) == 20 then
        match val with
        | .nilIface => unsupported (.noEntry "extern/reflectlite: a nil value of one interface type handed on as a value of another")
        | _ => storeVar dst a val
      else storeVar dst a (.iface src val)
    else panicString ("reflectlite.Set: value of type " ++ (← Rtype.spelt src) ++ " is not assignable to type " ++ (← Rtype.spelt dst))
    pure (.tuple #[])) := rfl
theorem as_partsPa (a : Addr) (w : World) : (ReflectliteValue.parts (.agg #[.pointer (some ⟨1, 104, none⟩), .pointer (some a), .int .u64 406])).run Tryd.prog w = .ok (some (104, a, 406)) w := by kernel_rfl
theorem as_partsP (a : Addr) (w : World) : (ReflectliteValue.parts (.agg #[.pointer (some ⟨1, 104, none⟩), .pointer (some a), .int .u64 150])).run Tryd.prog w = .ok (some (104, a, 150)) w := by kernel_rfl
theorem as_directP (w : World) : (Rtype.directlyAssignable 104 104).run Tryd.prog w = .ok true w := by kernel_rfl
theorem as_setP (ta b e : Addr) (old : Value) (W : World) (hb : W.cell? b = some (.pointer (some e))) (ht : W.cell? ta = some old) (hf : W.frozen? ta = false) :
    (ReflectliteValue.set #[.agg #[.pointer (some ⟨1, 104, none⟩), .pointer (some ta), .int .u64 406], .agg #[.pointer (some ⟨1, 104, none⟩), .pointer (some b), .int .u64 150]]).run Tryd.prog W
      = .ok (.tuple #[]) (W.setCell ta (.pointer (some e))) := by
  rw [as_rls]
  simp only [Sem.run_bind, as_partsPa, as_partsP, Result.andThen]
  simp [ReflectliteValue.flagAddr, loadVar, isAgg, underlying, Tryd.underlying104, hb, Result.andThen, as_directP, storeVar, Value.cells, storeCells, Addr.add]
  rw [run_store Tryd.prog W ta _ _ (by rfl)]
  simp [ht, hf]
set_option maxHeartbeats 8000000 in
theorem as_hit (e t : Addr) (old : Value) (w : World) (hG : Glob w) (ht0 : w.cell? t = some old) (hf0 : w.frozen? t = false) :
    Calls Tryd.prog 69 #[.iface 104 (.pointer (some e)), .iface 108 (.pointer (some t))] w fun ev w' => ev = .returned (.bool true) ∧ w' = (((((w.alloc (.cells #[.pointer (some t)] 108)).alloc (.cells #[.pointer (some ⟨1, 108, none⟩), .pointer (some ⟨w.heap.size, 0, none⟩), .int .u64 150] 131)).alloc (.cells #[.pointer (some ⟨1, 108, none⟩), .pointer (some ⟨w.heap.size, 0, none⟩), .int .u64 150] 131))).alloc (.cells #[.pointer (some e)] 104)).setCell t (.pointer (some e)) := by
 have hg : w.cell? ⟨0, 0, none⟩ = some (.iface 112 (.agg #[.pointer (some ⟨1, 58, none⟩)])) := hG; clear hG; have h6 := @run_callFunc_extern Tryd.prog 78 _ (fun args => ReflectliteValue.unpack (args.getD 0 (.tuple #[]))) Tryd.func78 (by kernel_rfl) (by kernel_rfl) (by kernel_rfl) (by kernel_rfl); have h7 := @run_callFunc_extern Tryd.prog 79 _ (ReflectliteValue.methodAny (ReflectliteValue.valueError "reflectlite.Value.Type" 0) (fun t _ _ _ => ReflectliteType.toType t)) Tryd.func79 (by kernel_rfl) (by kernel_rfl) (by kernel_rfl) (by kernel_rfl); have h8 := @run_callFunc_extern Tryd.prog 80 _ (ReflectliteValue.method (ReflectliteValue.valueError "reflectlite.Value.IsNil" 0) ReflectliteValue.isNil) Tryd.func80 (by kernel_rfl) (by kernel_rfl) (by kernel_rfl) (by kernel_rfl); have h27 := @run_callFunc_extern Tryd.prog 98 _ (ReflectliteType.abiMethod fun t => do pure (.int .u8 (← Rtype.kind t))) Tryd.func98 (by kernel_rfl) (by kernel_rfl) (by kernel_rfl) (by kernel_rfl); have h37 := @run_callFunc_extern Tryd.prog 108 _ (ReflectliteType.method ReflectliteType.elem) Tryd.func108 (by kernel_rfl) (by kernel_rfl) (by kernel_rfl) (by kernel_rfl); have h38 := @run_callFunc_extern Tryd.prog 109 _ (ReflectliteType.relation "Implements" ReflectliteType.implements_) Tryd.func109 (by kernel_rfl) (by kernel_rfl) (by kernel_rfl) (by kernel_rfl); have h10 := @run_callFunc_extern Tryd.prog 62 _ ReflectliteType.typeOf Tryd.func62 (by kernel_rfl) (by kernel_rfl) (by kernel_rfl) (by kernel_rfl); have h35 := @run_callFunc_extern Tryd.prog 106 _ (ReflectliteType.relation "AssignableTo" ReflectliteType.assignableTo) Tryd.func106 (by kernel_rfl) (by kernel_rfl) (by kernel_rfl) (by kernel_rfl); have h11 := @run_callFunc_extern Tryd.prog 82 _ (ReflectliteValue.method (ReflectliteValue.valueError "reflectlite.Value.Elem" 0) ReflectliteValue.elem) Tryd.func82 (by kernel_rfl) (by kernel_rfl) (by kernel_rfl) (by kernel_rfl); have h12 := @run_callFunc_extern Tryd.prog 83 _ ReflectliteValue.set Tryd.func83 (by kernel_rfl) (by kernel_rfl) (by kernel_rfl) (by kernel_rfl); have tO := as_typeOfP; have mA := as_methodAssignableTo; have a25 := as_assignableP; have v25 := as_valueOfP; have f6 := as_valueOfPP; have f7 := as_typePP; have mK := as_methodKind; have mE := as_methodElem; have mI := as_methodImplements; have k27 := as_kindPP; have k25 := as_kindP; have e27 := as_elemPP; have i25 := as_implementsP; have n8 := as_isNilPP ⟨w.heap.size, 0, none⟩ t ((w.alloc (.cells #[.pointer (some t)] 108)).alloc (.cells #[.pointer (some ⟨1, 108, none⟩), .pointer (some ⟨w.heap.size, 0, none⟩), .int .u64 150] 131)) (by simp); have hlt : 0 < w.heap.size := block_lt_of_cell hg
 have hg2 : ((w.alloc (.cells #[.pointer (some t)] 108)).alloc (.cells #[.pointer (some ⟨1, 108, none⟩), .pointer (some ⟨w.heap.size, 0, none⟩), .int .u64 150] 131)).cell? ⟨0, 0, none⟩ = some (.iface 112 (.agg #[.pointer (some ⟨1, 58, none⟩)])) := by
  (rw [World.cell?_alloc_lt _ _ ⟨0, 0, none⟩ (by simp <;> omega), World.cell?_alloc_lt _ _ ⟨0, 0, none⟩ hlt]; exact hg)
 have htl : t.block < w.heap.size := block_lt_of_cell ht0; have el := as_elemVPP ⟨w.heap.size, 0, none⟩ t (((w.alloc (.cells #[.pointer (some t)] 108)).alloc (.cells #[.pointer (some ⟨1, 108, none⟩), .pointer (some ⟨w.heap.size, 0, none⟩), .int .u64 150] 131)).alloc (.cells #[.pointer (some ⟨1, 108, none⟩), .pointer (some ⟨w.heap.size, 0, none⟩), .int .u64 150] 131)) (by rw [World.cell?_alloc_lt _ _ ⟨w.heap.size, 0, none⟩ (by simp; omega)]; simp)
 have st := as_setP t ⟨w.heap.size + 1 + 1 + 1, 0, none⟩ e old ((((w.alloc (.cells #[.pointer (some t)] 108)).alloc (.cells #[.pointer (some ⟨1, 108, none⟩), .pointer (some ⟨w.heap.size, 0, none⟩), .int .u64 150] 131)).alloc (.cells #[.pointer (some ⟨1, 108, none⟩), .pointer (some ⟨w.heap.size, 0, none⟩), .int .u64 150] 131)).alloc (.cells #[.pointer (some e)] 104))
   (by rw [World.cell?_alloc_at _ _ _ _ (by simp)]; rfl)
   (by rw [World.cell?_alloc_lt _ _ t (by simp; omega), World.cell?_alloc_lt _ _ t (by simp; omega), World.cell?_alloc_lt _ _ t (by simp; omega), World.cell?_alloc_lt _ _ t htl]; exact ht0)
   (by rw [World.frozen?_alloc_old _ _ t (by simp; omega), World.frozen?_alloc_old _ _ t (by simp; omega), World.frozen?_alloc_old _ _ t (by simp; omega), World.frozen?_alloc_old _ _ t (Nat.ne_of_lt htl)]; exact hf0)
 (go_enter Tryd.func69, Tryd.ntmps69); go_wp2; refine wp_loop_rounds 1 ?_; rw [rounds_succ]; go_wp2; go_ret; exact ⟨rfl, rfl⟩
def leb_IsErr (w : World) (v : Value) (c : Int) : Prop := (v = .nilIface ∧ c = 0) ∨ c ≠ 0 ∧ ∃ g : Nat, v = .iface 104 (.pointer (some ⟨g, 0, none⟩)) ∧ w.cell? ⟨g, 0, none⟩ = some (.int .i64 c)
theorem leb_IsErr.new (w : World) (c : Int) (h : c ≠ 0) : leb_IsErr (w.alloc (.cells #[.int .i64 c] 106)) (.iface 104 (.pointer (some ⟨w.heap.size, 0, none⟩))) c :=
  .inr ⟨h, _, rfl, by rw [World.cell?_alloc_at _ _ _ _ rfl]; rfl⟩
theorem leb_IsErr.below {w W : World} {v : Value} {c : Int} (h : leb_IsErr w v c) (hb : Below w.heap.size w W) : leb_IsErr W v c := by
 rcases h with h | ⟨h0, g, hv, hc⟩
 (· exact .inl h); (· exact .inr ⟨h0, g, hv, by rw [hb.cell (block_lt_of_cell hc)]; exact hc⟩)
set_option maxHeartbeats 8000000 in
theorem leb_errno.calls (c : Int) (v : Value) (w : World) (hG : Glob w) (hv : leb_IsErr w v c) :
    Calls Tryd.prog 59 #[v] w fun e w' => e = .returned (.int .i64 c) ∧ Below w.heap.size w w' := by
 rcases hv with ⟨rfl, rfl⟩ | ⟨h0, g, rfl, hc⟩
 (· clear hG; (go_enter Tryd.func59, Tryd.ntmps59); (go_wp2_with (go_at_call 69; refine (as_nil _ _).mono ?_; rintro e w' ⟨rfl, rfl⟩)); go_ret; exact ⟨rfl, (Below.refl _ _).alloc (Nat.le_refl _) _⟩)
 · have hlt : 0 < w.heap.size := block_lt_of_cell hG
   have hgA : Glob (w.alloc (.cells #[.pointer none] 104)) := Glob.below hG ((Below.refl _ _).alloc (Nat.le_refl _) _); (have htA : (w.alloc (.cells #[.pointer none] 104)).cell? ⟨w.heap.size, 0, none⟩ = some (.pointer none) := by simp); (have hfA : (w.alloc (.cells #[.pointer none] 104)).frozen? ⟨w.heap.size, 0, none⟩ = false := by simp); have HGA := aM_ hgA; have HTA := aM_ htA; have HFA := aM_ hfA; have gl := block_lt_of_cell hc; have gl' : g < w.heap.size := gl; have hne : g ≠ w.heap.size := Nat.ne_of_lt gl'
   have hr : ∀ W : World, Below (w.alloc (.cells #[.pointer none] 104)).heap.size (w.alloc (.cells #[.pointer none] 104)) W → (W.setCell ⟨w.heap.size, 0, none⟩ (.pointer (some ⟨g, 0, none⟩))).cell? ⟨g, 0, none⟩ = some (.int .i64 c) := by
    intro W hW; have h1 := ((Below.refl w.heap.size w).alloc (Nat.le_refl _) (.cells #[.pointer none] 104)).trans (hW.mono (B' := w.heap.size) (by simp)); have h2 := h1.setCell (p := ⟨w.heap.size, 0, none⟩) (Nat.le_refl _) (.pointer (some ⟨g, 0, none⟩)); rw [h2.cell gl]; exact hc
   have hbel : Below (w.alloc (.cells #[.pointer none] 104)).heap.size (w.alloc (.cells #[.pointer none] 104)) (((((w.alloc (.cells #[.pointer none] 104)).alloc (.cells #[.pointer (some ⟨w.heap.size, 0, none⟩)] 108)).alloc (.cells #[.pointer (some ⟨1, 108, none⟩), .pointer (some ⟨(w.alloc (.cells #[.pointer none] 104)).heap.size, 0, none⟩), .int .u64 150] 131)).alloc (.cells #[.pointer (some ⟨1, 108, none⟩), .pointer (some ⟨(w.alloc (.cells #[.pointer none] 104)).heap.size, 0, none⟩), .int .u64 150] 131)).alloc (.cells #[.pointer (some ⟨g, 0, none⟩)] 104)) :=
     ((((Below.refl _ _).alloc (Nat.le_refl _) _).alloc (by simp) _).alloc (by simp <;> omega) _).alloc (by simp <;> omega) _
   have hcell := hr _ hbel; have hb2 := (((Below.refl w.heap.size w).alloc (Nat.le_refl _) (.cells #[.pointer none] 104)).trans (hbel.mono (B' := w.heap.size) (by simp))).setCell (p := ⟨w.heap.size, 0, none⟩) (Nat.le_refl _) (.pointer (some ⟨g, 0, none⟩)); have HB2 := aM_ hb2; have HCL := aM_ hcell; clear hr hbel hcell hb2 hgA htA hfA hG; obtain ⟨WF, hWF⟩ : ∃ WF : World, WF = (((((w.alloc (.cells #[.pointer none] 104)).alloc (.cells #[.pointer (some ⟨w.heap.size, 0, none⟩)] 108)).alloc (.cells #[.pointer (some ⟨1, 108, none⟩), .pointer (some ⟨(w.alloc (.cells #[.pointer none] 104)).heap.size, 0, none⟩), .int .u64 150] 131)).alloc (.cells #[.pointer (some ⟨1, 108, none⟩), .pointer (some ⟨(w.alloc (.cells #[.pointer none] 104)).heap.size, 0, none⟩), .int .u64 150] 131)).alloc (.cells #[.pointer (some ⟨g, 0, none⟩)] 104)).setCell ⟨w.heap.size, 0, none⟩ (.pointer (some ⟨g, 0, none⟩)) := ⟨_, rfl⟩
   have hp1 : WF.cell? ⟨w.heap.size, 0, none⟩ = some (.pointer (some ⟨g, 0, none⟩)) := by
    rw [hWF]; refine World.cell?_setCell_same (u := .pointer none) _ _ _ ?_; (rw [World.cell?_alloc_lt _ _ _ (by simp <;> omega), World.cell?_alloc_lt _ _ _ (by simp <;> omega), World.cell?_alloc_lt _ _ _ (by simp <;> omega), World.cell?_alloc_lt _ _ _ (by simp <;> omega)]); simp
   (have hp2 : WF.cell? ⟨g, 0, none⟩ = some (.int .i64 c) := by rw [hWF]; exact HCL.out); (have hp3 : Below w.heap.size w WF := by rw [hWF]; exact HB2.out); have HP3 := aM_ hp3; have HWF := aM_ hWF; clear hp3 hWF HCL HB2; (go_enter Tryd.func59, Tryd.ntmps59); (go_wp2_with (go_at_call 69; refine (as_hit _ _ (.pointer none) _ HGA.out HTA.out HFA.out).mono ?_; rintro e w' ⟨rfl, hw'⟩; replace hw' := hw'.trans HWF.out.symm; subst hw')); go_ret; exact ⟨rfl, HP3.out⟩
end
mutual
def leb_get.l0 : Nat → Int → List Int → Int → Int → Option (Int × Int × Int)
  | 0, _, _, _, _ => none
  | k + 1, x5, x12, x13, x14 => if x14 < x13 then (if 0 ≤ x14 then (if x14 < (x12.length : Int) then (if x14 = 9 then (leb_get.j1 k x5 x14 (rd x12 x14) x12 x13 x14 (decide ((rd x12 x14) > 1))) else (leb_get.j1 k x5 x14 (rd x12 x14) x12 x13 x14 false)) else (none)) else (none)) else (some (0, 0, 20))
def leb_get.j1 : Nat → Int → Int → Int → List Int → Int → Int → Bool → Option (Int × Int × Int)
  | 0, _, _, _, _, _, _, _ => none
  | k + 1, x5, x6, x7, x12, x13, x14, x24 => if x24 = true then (some (0, 0, 21)) else (if 0 ≤ (wrap64 (7 * x6)) then (if x7 < 128 then (if x6 > 0 then (if x7 = 0 then (some (0, 0, 21)) else (some (Go.bits .or .u64 x5 (shl .u64 (IntKind.u64.wrap (Go.bits .andNot .u8 x7 128)) (wrap64 (7 * x6))), wrap64 (x6 + 1), 0))) else (some (Go.bits .or .u64 x5 (shl .u64 (IntKind.u64.wrap (Go.bits .andNot .u8 x7 128)) (wrap64 (7 * x6))), wrap64 (x6 + 1), 0))) else (leb_get.l0 k (Go.bits .or .u64 x5 (shl .u64 (IntKind.u64.wrap (Go.bits .andNot .u8 x7 128)) (wrap64 (7 * x6)))) x12 x13 (wrap64 (x14 + 1)))) else (none))
end
def leb_get.f (k : Nat) (l0 : List Int) : Option (Int × Int × Int) := if 0 ≤ (mn (l0.length : Int) 10) then (if (mn (l0.length : Int) 10) ≤ (l0.length : Int) then (leb_get.l0 k 0 (l0.take ((mn (l0.length : Int) 10) : Int).toNat) ((l0.take ((mn (l0.length : Int) 10) : Int).toNat).length : Int) 0) else (none)) else (none)
theorem leb_get.mono_l : ∀ k, (∀ y0 y1 y2 y3, LeO (leb_get.l0 k y0 y1 y2 y3) (leb_get.l0 (k + 1) y0 y1 y2 y3)) ∧ (∀ y0 y1 y2 y3 y4 y5 y6, LeO (leb_get.j1 k y0 y1 y2 y3 y4 y5 y6) (leb_get.j1 (k + 1) y0 y1 y2 y3 y4 y5 y6))
  | 0 => ⟨fun _ _ _ _ r h => by simp [leb_get.l0] at h, fun _ _ _ _ _ _ _ r h => by simp [leb_get.j1] at h⟩
  | k + 1 => by
    obtain ⟨ih0, ih1⟩ := leb_get.mono_l k
    refine ⟨?_, ?_⟩
    · intro y0 y1 y2 y3
      unfold leb_get.l0
      repeat' first
      | (with_reducible exact ih0 _ _ _ _)
      | (with_reducible exact ih1 _ _ _ _ _ _ _)
      | (with_reducible exact LeO.refl _)
      | (with_reducible exact LeO.none _)
      | (with_reducible refine LeO.ite ?_ ?_)
      | (with_reducible refine LeO.bind ?_ (fun _ => ?_))
      | exact ih0 _ _ _ _
      | exact ih1 _ _ _ _ _ _ _
      | exact LeO.none _
      | refine LeO.ite ?_ ?_
      | refine LeO.bind ?_ (fun _ => ?_)
    · intro y0 y1 y2 y3 y4 y5 y6
      unfold leb_get.j1
      repeat' first
      | (with_reducible exact ih0 _ _ _ _)
      | (with_reducible exact ih1 _ _ _ _ _ _ _)
      | (with_reducible exact LeO.refl _)
      | (with_reducible exact LeO.none _)
      | (with_reducible refine LeO.ite ?_ ?_)
      | (with_reducible refine LeO.bind ?_ (fun _ => ?_))
      | exact ih0 _ _ _ _
      | exact ih1 _ _ _ _ _ _ _
      | exact LeO.none _
      | refine LeO.ite ?_ ?_
      | refine LeO.bind ?_ (fun _ => ?_)
theorem leb_get.mono : ∀ a0 k, LeO (leb_get.f k a0) (leb_get.f (k + 1) a0) := by
 intro a0 k; obtain ⟨ih0, ih1⟩ := leb_get.mono_l k; unfold leb_get.f
 repeat' first
     | (with_reducible exact ih0 _ _ _ _)
     | (with_reducible exact ih1 _ _ _ _ _ _ _)
     | (with_reducible exact LeO.refl _)
     | (with_reducible exact LeO.none _)
     | (with_reducible refine LeO.ite ?_ ?_)
     | (with_reducible refine LeO.bind ?_ (fun _ => ?_))
     | exact ih0 _ _ _ _
     | exact ih1 _ _ _ _ _ _ _
     | exact LeO.none _
     | refine LeO.ite ?_ ?_
     | refine LeO.bind ?_ (fun _ => ?_)
theorem leb_get.calls (k : Nat) (A0 : Option Addr) (c0 : Nat) (l0 : List Int) (r1 : Int) (r2 : Int) (r3 : Int) (w : World) (hr0 : Kd.C (Kd.int .u8) w A0 l0.length l0) (hc0 : l0.length ≤ c0) (h : leb_get.f k l0 = some (r1, r2, r3)) :
    Calls Tryd.prog 58 #[.slice A0 l0.length c0] w fun e w' => ∃ v_ : Value, e = .returned (.tuple #[.int .u64 r1, .int .i64 r2, v_]) ∧ leb_IsErr w' v_ r3 ∧ Below w.heap.size w w' := by
 have HR0 := aM_ hr0; have HC0 := aM_ hc0; clear hr0 hc0; have HB := aM_ (Below.refl w.heap.size w); have H : (if 0 ≤ (mn (l0.length : Int) 10) then (if (mn (l0.length : Int) 10) ≤ (l0.length : Int) then (leb_get.l0 k 0 (l0.take ((mn (l0.length : Int) 10) : Int).toNat) ((l0.take ((mn (l0.length : Int) 10) : Int).toNat).length : Int) 0) else (none)) else (none)) = some (r1, r2, r3) := h; clear h; obtain ⟨ji2, hji2⟩ : ∃ j_ : Int, (mn (l0.length : Int) 10) = j_ := ⟨_, rfl⟩; (replace H : (if 0 ≤ (ji2) then (if (ji2) ≤ (l0.length : Int) then (leb_get.l0 k 0 (l0.take ((ji2) : Int).toNat) ((l0.take ((ji2) : Int).toNat).length : Int) 0) else (none)) else (none)) = some (r1, r2, r3) := by first | (rw [hji2] at H; exact H) | (simp only [hji2] at H ⊢; exact H)); (try (have hji2h : ji2 ≤ 10 := by (rw [← hji2]; unfold mn; (repeat' split) <;> omega))); (try (have hji2g : ji2 ≤ 64 := by omega)); (try (have hji2l : 0 ≤ ji2 := by (rw [← hji2]; unfold mn; (repeat' split) <;> omega))); (try (have hji2m : 0 ≤ ji2 := by omega)); have hji2_ : (if 10 < (l0.length : Int) then 10 else (l0.length : Int)) = ji2 := hji2; (try (have hji2_n := hji2_; simp only [Int.ofNat_lt] at hji2_n)); (by_cases c3 : 0 ≤ (ji2))
 · rw [if_pos c3] at H
   have c3b0 := eq_true c3; have c3b1 : decide (0 ≤ (ji2)) = true := dT_ c3; clear c3; (by_cases c4 : (ji2) ≤ (l0.length : Int))
   · rw [if_pos c4] at H
     have c4b0 := eq_true c4; have c4b1 : decide ((ji2) ≤ (l0.length : Int)) = true := dT_ c4; clear c4; have H' := aM_ H; clear H; obtain ⟨i05, hi05, _, hsz5, _⟩ := info_parts info5; obtain ⟨hcut5, hA5, hC5⟩ := print_take_of (P := Tryd.prog) (Value.int .u8) 0 22 5 .i64 Tryd.underlying22 hi05 hsz5 A0 c0 l0 (ji2) (oD_ (by assumption)) (oD_ (by assumption)) HC0.out; have HR109 := aM_ (Kd.C_of_reads (h1 := fun _ => rfl) (hA5 _ (Kd.reads_of_C HR0.out))); have HC109 := aM_ hC5; clear hA5 hC5 hi05 hsz5
     have hlmx0 : ((l0.take ((ji2) : Int).toNat).length : Int) = max ji2 0 := by
      rw [lT_]; have h1_ : ji2 ≤ (l0.length : Int) := oD_ (by assumption); omega
     have HLMX := aM_ hlmx0; clear hlmx0; (go_enter Tryd.func58, Tryd.ntmps58); go_wp2; (go_loopg [5, 14] k (fun kq v5 v14 w' => ∃ (x5_1 : Int) (x14_1 : Int), v5 = .int .u64 x5_1 ∧ v14 = .int .i64 x14_1 ∧ Aside0 (leb_get.l0 kq x5_1 (l0.take ((ji2) : Int).toNat) ((l0.take ((ji2) : Int).toNat).length : Int) x14_1 = some (r1, r2, r3)) ∧ Aside0 (kq ≤ k) ∧ Aside0 (Below w.heap.size w w')))
     case atStart => exact ⟨(0), (0), (by first | rfl | (simp; done) | (simp [*]; done)), (by first | rfl | (simp; done) | (simp [*]; done)), H', ⟨Nat.le_refl _⟩, ⟨bZ0_ HB.out⟩⟩
     case round =>
      clear H'; (try clear c1); (try clear p2); (try clear c3); (try clear c3b0); (try clear c3b1); (try clear c4); (try clear c4b0); (try clear c4b1); obtain ⟨x5_1, x14_1, rfl, rfl, HA, HK1, HB⟩ := hrel
      cases gk with
      | zero => exact absurd HA.out (by simp [leb_get.l0])
      | succ k1 =>
       have H := HA.out; clear HA; simp only [leb_get.l0] at H; (by_cases c6 : x14_1 < ((l0.take ((ji2) : Int).toNat).length : Int))
       · rw [if_pos c6] at H
         have c6b0 : decide (x14_1 < ((l0.take ((ji2) : Int).toNat).length : Int)) = true := dT_ c6; (have c6b0m : decide (x14_1 < max ji2 0) = true := by rw [← HLMX.out]; exact c6b0); clear c6; (by_cases c7 : 0 ≤ x14_1)
         · rw [if_pos c7] at H
           have c7b0 : decide (0 ≤ x14_1) = true := dT_ c7; clear c7; (by_cases c8 : x14_1 < ((l0.take ((ji2) : Int).toNat).length : Int))
           · rw [if_pos c8] at H
             have c8b0 : decide (x14_1 < ((l0.take ((ji2) : Int).toNat).length : Int)) = true := dT_ c8; clear c8; have HC9 := aM_ H; clear H; have p110 : 0 ≤ (x14_1 : Int) := oD_ (by assumption); have q110 : x14_1 < ((l0.take ((ji2) : Int).toNat).length : Int) := oD_ (by assumption); obtain ⟨ad110, e110, hx110_0⟩ := Kd.at_int HR109.out x14_1 p110 q110; (cases e110); replace hx110_0 := (HB.out.cell (lC_ w _ hx110_0)).trans hx110_0; replace p110 := eq_true p110; have q110m := eq_true (show x14_1 < max ji2 0 by rw [← HLMX.out]; exact q110); have q110n := eq_false (show ¬ max ji2 0 ≤ x14_1 by rw [← HLMX.out]; omega); replace q110 := eq_true q110; (go_upto_region 5 with (fail)); (go_cut [24] (fun v24 wc => ∃ (kq : Nat) (x24_8 : Bool), v24 = .bool x24_8 ∧ Aside0 (leb_get.j1 kq x5_1 x14_1 (rd (l0.take ((ji2) : Int).toNat) x14_1) (l0.take ((ji2) : Int).toNat) ((l0.take ((ji2) : Int).toNat).length : Int) x14_1 x24_8 = some (r1, r2, r3)) ∧ Aside0 (kq ≤ k1) ∧ Aside0 (Below w.heap.size w wc)))
             case first =>
              have H := HC9.out; clear HC9; (by_cases c10 : x14_1 = 9)
              · rw [if_pos c10] at H
                have c10b0 : (x14_1 == 9) = true := beq_iff_eq.mpr c10; have c10b1 : (x14_1 != 9) = false := bne_eq_false_iff_eq.mpr c10; clear c10; (first | rw [c10b0] | (simp only [i64_w, i32_w]; rw [c10b0]) | skip); have H' := aM_ H; clear H; go_wp2; (go_meet)
                case rel => exact ⟨_, (decide ((rd (l0.take ((ji2) : Int).toNat) x14_1) > 1)), (by first | rfl | (simp; done) | (simp only [← hji2] <;> (first | rfl | simp)) | (simp [*]; done)), H', ⟨by have := HK1.out; first | omega | exact Nat.le_refl _⟩, ⟨bZ0_ HB.out⟩⟩
              · rw [if_neg c10] at H
                have c10b0 : (x14_1 == 9) = false := beq_eq_false_iff_ne.mpr c10; have c10b1 : (x14_1 != 9) = true := bne_iff_ne.mpr c10; (first | rw [c10b0] | (simp only [i64_w, i32_w]; rw [c10b0]) | skip); have H' := aM_ H; clear H; go_wp2; (go_meet)
                case rel => exact ⟨_, (false), (by first | rfl | (simp; done) | (simp [*]; done)), H', ⟨by have := HK1.out; first | omega | exact Nat.le_refl _⟩, ⟨bZ0_ HB.out⟩⟩
             case rest =>
              clear HC9; (try clear c1); (try clear p1); (try clear q1); (try clear hx1); (try clear p2); (try clear c3); (try clear c3b0); (try clear c3b1); (try clear c4); (try clear c4b0); (try clear c4b1); (try clear c6); (try clear c6b0); (try clear c7); (try clear c7b0); (try clear c8); (try clear c8b0); (try clear c10); (try clear c10b0); (try clear c10b1); (try clear hx110_0); (try clear p110); (try clear p2); (try clear q110); clear q110m q110n; obtain ⟨kq, x24_8, rfl, HA, HJ8, HB⟩ := hcut
              cases kq with
              | zero => exact absurd HA.out (by simp [leb_get.j1])
              | succ kj8 =>
               have H := HA.out; clear HA; simp only [leb_get.j1] at H; (by_cases c11 : x24_8 = true); (· subst c11; (have H1 : (some (0, 0, 21)) = some (r1, r2, r3) := by rw [if_pos rfl] at H; exact H); clear H; have H := H1; clear H1; simp only [oI_, pI_] at H; obtain ⟨rfl, rfl, rfl⟩ := H; go_wp2; (go_ret3); exact ⟨_, rfl, leb_IsErr.new _ _ (by decide), by exact bZ0_ HB.out⟩)
               · replace c11 := Bool.eq_false_iff.mpr c11
                 subst c11; (have H1 : (if 0 ≤ (wrap64 (7 * x14_1)) then (if (rd (l0.take ((ji2) : Int).toNat) x14_1) < 128 then (if x14_1 > 0 then (if (rd (l0.take ((ji2) : Int).toNat) x14_1) = 0 then (some (0, 0, 21)) else (some (Go.bits .or .u64 x5_1 (shl .u64 (IntKind.u64.wrap (Go.bits .andNot .u8 (rd (l0.take ((ji2) : Int).toNat) x14_1) 128)) (wrap64 (7 * x14_1))), wrap64 (x14_1 + 1), 0))) else (some (Go.bits .or .u64 x5_1 (shl .u64 (IntKind.u64.wrap (Go.bits .andNot .u8 (rd (l0.take ((ji2) : Int).toNat) x14_1) 128)) (wrap64 (7 * x14_1))), wrap64 (x14_1 + 1), 0))) else (leb_get.l0 kj8 (Go.bits .or .u64 x5_1 (shl .u64 (IntKind.u64.wrap (Go.bits .andNot .u8 (rd (l0.take ((ji2) : Int).toNat) x14_1) 128)) (wrap64 (7 * x14_1)))) (l0.take ((ji2) : Int).toNat) ((l0.take ((ji2) : Int).toNat).length : Int) (wrap64 (x14_1 + 1)))) else (none)) = some (r1, r2, r3) := by rw [if_neg (show ¬ (false = true) by decide)] at H; exact H); clear H; have H := H1; clear H1; obtain ⟨ji12, hji12⟩ : ∃ j_ : Int, (wrap64 (7 * x14_1)) = j_ := ⟨_, rfl⟩; (replace H : (if 0 ≤ (ji12) then (if (rd (l0.take ((ji2) : Int).toNat) x14_1) < 128 then (if x14_1 > 0 then (if (rd (l0.take ((ji2) : Int).toNat) x14_1) = 0 then (some (0, 0, 21)) else (some (Go.bits .or .u64 x5_1 (shl .u64 (IntKind.u64.wrap (Go.bits .andNot .u8 (rd (l0.take ((ji2) : Int).toNat) x14_1) 128)) (ji12)), wrap64 (x14_1 + 1), 0))) else (some (Go.bits .or .u64 x5_1 (shl .u64 (IntKind.u64.wrap (Go.bits .andNot .u8 (rd (l0.take ((ji2) : Int).toNat) x14_1) 128)) (ji12)), wrap64 (x14_1 + 1), 0))) else (leb_get.l0 kj8 (Go.bits .or .u64 x5_1 (shl .u64 (IntKind.u64.wrap (Go.bits .andNot .u8 (rd (l0.take ((ji2) : Int).toNat) x14_1) 128)) (ji12))) (l0.take ((ji2) : Int).toNat) ((l0.take ((ji2) : Int).toNat).length : Int) (wrap64 (x14_1 + 1)))) else (none)) = some (r1, r2, r3) := by first | (rw [hji12] at H; exact H) | (simp only [hji12] at H ⊢; exact H)); have hji12w : (IntKind.i64.wrap (7 * x14_1)) = ji12 := (i64_w _).trans hji12; (by_cases c13 : 0 ≤ (ji12))
                 · rw [if_pos c13] at H
                   have c13b0 := eq_true c13; have c13b1 : decide (0 ≤ (ji12)) = true := dT_ c13; clear c13; obtain ⟨ji14, hji14⟩ : ∃ j_ : Int, (shl .u64 (IntKind.u64.wrap (Go.bits .andNot .u8 (rd (l0.take ((ji2) : Int).toNat) x14_1) 128)) (ji12)) = j_ := ⟨_, rfl⟩; (replace H : (if (rd (l0.take ((ji2) : Int).toNat) x14_1) < 128 then (if x14_1 > 0 then (if (rd (l0.take ((ji2) : Int).toNat) x14_1) = 0 then (some (0, 0, 21)) else (some (Go.bits .or .u64 x5_1 (ji14), wrap64 (x14_1 + 1), 0))) else (some (Go.bits .or .u64 x5_1 (ji14), wrap64 (x14_1 + 1), 0))) else (leb_get.l0 kj8 (Go.bits .or .u64 x5_1 (ji14)) (l0.take ((ji2) : Int).toNat) ((l0.take ((ji2) : Int).toNat).length : Int) (wrap64 (x14_1 + 1)))) = some (r1, r2, r3) := by first | (rw [hji14] at H; exact H) | (simp only [hji14] at H ⊢; exact H)); have hji14_ : (IntKind.u64.wrap ((IntKind.u64.wrap (Go.bits .andNot .u8 (rd (l0.take ((ji2) : Int).toNat) x14_1) 128)) * 2 ^ min (ji12).toNat 64)) = ji14 := hji14; have hji14z : (ji12) ≤ 64 → (IntKind.u64.wrap ((IntKind.u64.wrap (Go.bits .andNot .u8 (rd (l0.take ((ji2) : Int).toNat) x14_1) 128)) * 2 ^ (ji12).toNat)) = ji14 := shl_small hji14; (by_cases c15 : (rd (l0.take ((ji2) : Int).toNat) x14_1) < 128); (· rw [if_pos c15] at H; have c15b0 : decide ((rd (l0.take ((ji2) : Int).toNat) x14_1) < 128) = true := dT_ c15; clear c15; (by_cases c16 : x14_1 > 0); (· rw [if_pos c16] at H; have c16b0 : decide (0 < x14_1) = true := dT_ c16; clear c16; (by_cases c17 : (rd (l0.take ((ji2) : Int).toNat) x14_1) = 0); (· rw [if_pos c17] at H; have c17b0 : ((rd (l0.take ((ji2) : Int).toNat) x14_1) == 0) = true := beq_iff_eq.mpr c17; have c17b1 : ((rd (l0.take ((ji2) : Int).toNat) x14_1) != 0) = false := bne_eq_false_iff_eq.mpr c17; clear c17; simp only [oI_, pI_] at H; obtain ⟨rfl, rfl, rfl⟩ := H; go_wp2; (go_ret3); exact ⟨_, rfl, leb_IsErr.new _ _ (by decide), by exact bZ0_ HB.out⟩); (· rw [if_neg c17] at H; have c17b0 : ((rd (l0.take ((ji2) : Int).toNat) x14_1) == 0) = false := beq_eq_false_iff_ne.mpr c17; have c17b1 : ((rd (l0.take ((ji2) : Int).toNat) x14_1) != 0) = true := bne_iff_ne.mpr c17; simp only [oI_, pI_] at H; obtain ⟨rfl, rfl, rfl⟩ := H; go_wp2; (go_ret3); (exact ⟨.nilIface, by first | rfl | (simp [errW_none, errW_some] <;> rfl) | (simp only [← hji2, ← hji12, ← hji14]; first | rfl | (simp [errW_none, errW_some] <;> rfl)) | (simp [*, errW_none, errW_some] <;> rfl), .inl ⟨rfl, rfl⟩, by exact bZ0_ HB.out⟩))); (· rw [if_neg c16] at H; have c16b0 : decide (0 < x14_1) = false := decide_eq_false c16; clear c16; simp only [oI_, pI_] at H; obtain ⟨rfl, rfl, rfl⟩ := H; go_wp2; (go_ret3); (exact ⟨.nilIface, by first | rfl | (simp [errW_none, errW_some] <;> rfl) | (simp only [← hji2, ← hji12, ← hji14]; first | rfl | (simp [errW_none, errW_some] <;> rfl)) | (simp [*, errW_none, errW_some] <;> rfl), .inl ⟨rfl, rfl⟩, by exact bZ0_ HB.out⟩)))
                   · rw [if_neg c15] at H
                     have c15b0 : decide ((rd (l0.take ((ji2) : Int).toNat) x14_1) < 128) = false := decide_eq_false c15; clear c15; have H' := aM_ H; clear H; go_wp2; (go_roundg kj8)
                     case measure => have := HK1.out; have := HJ8.out; omega
                     case rel => exact ⟨(Go.bits .or .u64 x5_1 (ji14)), (wrap64 (x14_1 + 1)), (by first | rfl | (simp; done) | (simp only [← hji14] <;> (first | rfl | simp)) | (simp [*]; done)), (by first | rfl | (simp; done) | (simp [*]; done)), H', ⟨by have := HK1.out; have := HJ8.out; omega⟩, ⟨bZ0_ HB.out⟩⟩
                 (· rw [if_neg c13] at H; exact absurd H (by simp))
           (· rw [if_neg c8] at H; exact absurd H (by simp))
         (· rw [if_neg c7] at H; exact absurd H (by simp))
       (· rw [if_neg c6] at H; have c6b0 : decide (x14_1 < ((l0.take ((ji2) : Int).toNat).length : Int)) = false := decide_eq_false c6; (have c6b0m : decide (x14_1 < max ji2 0) = false := by rw [← HLMX.out]; exact c6b0); clear c6; simp only [oI_, pI_] at H; obtain ⟨rfl, rfl, rfl⟩ := H; go_wp2; (go_ret3); exact ⟨_, rfl, leb_IsErr.new _ _ (by decide), by exact bZ0_ HB.out⟩)
   (· rw [if_neg c4] at H; exact absurd H (by simp))
 (· rw [if_neg c3] at H; exact absurd H (by simp))
def leb_Get.f (k : Nat) (l0 : List Int) : Option (Int × Int × Int) := (leb_get.f k l0).bind fun bt111 => (some (bt111.1, bt111.2.1, bt111.2.2))
theorem leb_Get.mono : ∀ a0 k, LeO (leb_Get.f k a0) (leb_Get.f (k + 1) a0) := by
 intro a0 k; unfold leb_Get.f
 repeat' first
     | (with_reducible exact leb_get.mono _ _)
     | (with_reducible exact LeO.refl _)
     | (with_reducible exact LeO.none _)
     | (with_reducible refine LeO.ite ?_ ?_)
     | (with_reducible refine LeO.bind ?_ (fun _ => ?_))
     | exact LeO.none _
     | refine LeO.ite ?_ ?_
     | refine LeO.bind ?_ (fun _ => ?_)
theorem leb_Get.calls (k : Nat) (A0 : Option Addr) (c0 : Nat) (l0 : List Int) (r1 : Int) (r2 : Int) (r3 : Int) (w : World) (hr0 : Kd.C (Kd.int .u8) w A0 l0.length l0) (hc0 : l0.length ≤ c0) (hG : Glob w) (h : leb_Get.f k l0 = some (r1, r2, r3)) :
    Calls Tryd.prog 43 #[.slice A0 l0.length c0] w fun e w' => e = .returned (.tuple #[.int .u64 r1, .int .i64 r2, .int .i64 r3]) ∧ Below w.heap.size w w' := by
 have HR0 := aM_ hr0; have HC0 := aM_ hc0; clear hr0 hc0; have HG := aM_ hG; clear hG; have HB := aM_ (Below.refl w.heap.size w); have H : ((leb_get.f k l0).bind fun bt111 => (some (bt111.1, bt111.2.1, bt111.2.2))) = some (r1, r2, r3) := h; clear h; replace H := Option.bind_eq_some_iff.mp H; obtain ⟨⟨t111, t112, t113⟩, A20, H⟩ := H; replace H : (some (t111, t112, t113)) = some (r1, r2, r3) := H; have A2 := aM_ A20; clear A20; simp only [oI_, pI_] at H; obtain ⟨rfl, rfl, rfl⟩ := H; (go_enter Tryd.func43, Tryd.ntmps43)
 go_wp2_with (first | ((with_reducible refine gate_callee (f := 58) rfl ?_); refine goesL_ (some 10) rfl rfl Tryd.func58 (by kernel_rfl) rfl #[.slice A0 l0.length c0] rfl (by (try simp only [mA_, mC_, mN_]); first | done | rfl | (simp only [lD_, lT_]; rfl)) ?_; (with_reducible refine (leb_get.calls k _ _ l0 t111 t112 t113 _ ?side1 ?side2 A2.out).mono ?_); (case side1 => exact cZ_ HR0.out); (case side2 => exact HC0.out); rintro e w3 ⟨ve, rfl, he_, hb⟩; refine ⟨_, rfl, ?_⟩; have n0_ := aM_ (bT_ (bZ0_ HB.out) hb); clear HB; have HB := n0_; clear n0_; have HE := aM_ he_; clear he_; (try clear hb); (try clear hb2); (try clear hk); (try clear hi)) | ((with_reducible refine gate_callee (f := 59) rfl ?_); refine goesL_ (some 17) rfl rfl Tryd.func59 (by kernel_rfl) rfl #[ve] rfl (by (try simp only [mA_, mC_, mN_]); first | done | rfl) ?_; (with_reducible refine (leb_errno.calls t113 ve _ ?side1 HE.out).mono ?_); (case side1 => exact Glob.below HG.out (bZ0_ HB.out)); rintro e w4 ⟨rfl, hb⟩; refine ⟨_, rfl, ?_⟩; have n0_ := aM_ (bT_ (bZ0_ HB.out) hb); clear HB; have HB := n0_; clear n0_; clear hb))
 (go_ret3); (exact ⟨by first | rfl | (simp [errW_none, errW_some] <;> rfl) | (simp [*, errW_none, errW_some] <;> rfl), by exact bZ0_ HB.out⟩)
def crc_Right.f (k : Nat) (l0 : List Int) : Option (Bool) := if (wrap64 ((l0.length : Int) - 4)) ≥ 0 then (if 0 ≤ (wrap64 ((l0.length : Int) - 4)) then (if (wrap64 ((l0.length : Int) - 4)) ≤ (l0.length : Int) then ((crc_Bytes.f k (l0.take ((wrap64 ((l0.length : Int) - 4)) : Int).toNat)).bind fun t373 => (some ((strOfNums t373).toList == (strOfNums l0).toList))) else (none)) else (none)) else (some false)
theorem crc_Right.mono : ∀ a0 k, LeO (crc_Right.f k a0) (crc_Right.f (k + 1) a0) := by
 intro a0 k; unfold crc_Right.f
 repeat' first
     | (with_reducible exact crc_Bytes.mono _ _)
     | (with_reducible exact LeO.refl _)
     | (with_reducible exact LeO.none _)
     | (with_reducible refine LeO.ite ?_ ?_)
     | (with_reducible refine LeO.bind ?_ (fun _ => ?_))
     | exact LeO.none _
     | refine LeO.ite ?_ ?_
     | refine LeO.bind ?_ (fun _ => ?_)
def crc_Right.T2 : Bool × List (List Nat × List Nat) := (true, [([], []), ([0], [0]), ([1], [1]), ([2], [2]), ([2], [2]), ([3, 4, 2], [2, 3, 4]), ([5, 2, 2], [2, 5]), ([6, 2], [2, 6]), ([2], [2]), ([8, 2], [2, 8]), ([7, 9, 2], [2, 7, 9]), ([2, 10], [2, 10]), ([11, 6, 0, 1, 2, 3, 4, 5, 6, 7, 8, 9, 10, 11], [11])])
def crc_Right.B2 : List Nat := [0, 1, 3, 7, 7, 31, 63, 127, 7, 263, 1023, 2047, 4095]
theorem crc_Right.tab2 : rtab .any (opsOf Tryd.f44 2) = crc_Right.T2 := by kernel_rfl
theorem crc_Right.bits2 : waitsOk crc_Right.T2.2 crc_Right.B2 = true := by kernel_rfl
theorem crc_Right.calls (k : Nat) (A0 : Option Addr) (c0 : Nat) (l0 : List Int) (r : Bool) (w : World) (hr0 : Kd.C (Kd.int .u8) w A0 l0.length l0) (hc0 : l0.length ≤ c0) (h : crc_Right.f k l0 = some r) :
    Calls Tryd.prog 44 #[.slice A0 l0.length c0] w fun e w' => e = .returned (.bool r) ∧ Below w.heap.size w w' := by
 have HR0 := aM_ hr0; have HC0 := aM_ hc0; clear hr0 hc0; have HB := aM_ (Below.refl w.heap.size w); have H : (if (wrap64 ((l0.length : Int) - 4)) ≥ 0 then (if 0 ≤ (wrap64 ((l0.length : Int) - 4)) then (if (wrap64 ((l0.length : Int) - 4)) ≤ (l0.length : Int) then ((crc_Bytes.f k (l0.take ((wrap64 ((l0.length : Int) - 4)) : Int).toNat)).bind fun t373 => (some ((strOfNums t373).toList == (strOfNums l0).toList))) else (none)) else (none)) else (some false)) = some r := h; clear h; (by_cases c2 : (wrap64 ((l0.length : Int) - 4)) ≥ 0)
 · rw [if_pos c2] at H
   have c2b0 : decide (0 ≤ (wrap64 ((l0.length : Int) - 4))) = true := dT_ c2; clear c2; obtain ⟨ji3, hji3⟩ : ∃ j_ : Int, (wrap64 ((l0.length : Int) - 4)) = j_ := ⟨_, rfl⟩; (replace H : (if 0 ≤ (ji3) then (if (ji3) ≤ (l0.length : Int) then ((crc_Bytes.f k (l0.take ((ji3) : Int).toNat)).bind fun t373 => (some ((strOfNums t373).toList == (strOfNums l0).toList))) else (none)) else (none)) = some r := by first | (rw [hji3] at H; exact H) | (simp only [hji3] at H ⊢; exact H)); (try rw [hji3] at c2b0); have hji3w : (IntKind.i64.wrap ((l0.length : Int) - 4)) = ji3 := (i64_w _).trans hji3; (by_cases c4 : 0 ≤ (ji3))
   · rw [if_pos c4] at H
     have c4b0 := eq_true c4; have c4b1 : decide (0 ≤ (ji3)) = true := dT_ c4; clear c4; (by_cases c5 : (ji3) ≤ (l0.length : Int))
     · rw [if_pos c5] at H
       have c5b0 := eq_true c5; have c5b1 : decide ((ji3) ≤ (l0.length : Int)) = true := dT_ c5; clear c5; replace H := Option.bind_eq_some_iff.mp H; obtain ⟨t373, A60, H⟩ := H; replace H : (some ((strOfNums t373).toList == (strOfNums l0).toList)) = some r := H; have A6 := aM_ A60; clear A60; obtain rfl := oJ_ H; simp only [oI_, pI_] at H; obtain ⟨rfl⟩ := H; (go_enter Tryd.func44, Tryd.ntmps44); (try go_wp2); have n0_ := aM_ (bD_ HB.out); clear HB; have HB := n0_; clear n0_; obtain ⟨i08, hi08, _, hsz8, _⟩ := info_parts info5; obtain ⟨hcut8, hA8, hC8⟩ := print_take_of (P := Tryd.prog) (Value.int .u8) 0 22 5 .i64 Tryd.underlying22 hi08 hsz8 A0 c0 l0 (ji3) (oD_ (by assumption)) (oD_ (by assumption)) HC0.out; have HR372 := aM_ (Kd.C_of_reads (h1 := fun _ => rfl) (hA8 _ (Kd.reads_of_C HR0.out))); have HC372 := aM_ hC8; clear hA8 hC8 hi08 hsz8; refine start_ (n := 13) (S := fun w' => (convert 22 9 (.slice A0 l0.length c0)).run Tryd.prog w' = .ok (.string (strOfNums l0)) w') (ds := []) (mB_ 13 0) (by kernel_rfl) rfl rfl (Kd.C_string (P := Tryd.prog) (A := A0) (c := c0) Tryd.underlying22 Tryd.underlying5 Tryd.underlying9 (Kd.C_below HR0.out HB.out)) (fun hHeld => ?_); refine with_tabW crc_Right.tab2 crc_Right.bits2 (fun HT_ HW_ => ?_); generalize w.drew = w7 at HB HR372 hHeld ⊢; refine pz_ (i := 0) (N := some 7) (mB_ 13 1) (any_of HT_.out (by kernel_rfl)) (h := ?_); refine pz_ (i := 1) (N := some 8) (mB_ 13 3) (any_of HT_.out (by kernel_rfl)) (h := ?_); refine pz_ (i := 2) (N := some 9) (mB_ 13 7) (any_of HT_.out (by kernel_rfl)) (h := ?_); refine pure_ (i := 3) (N := some 10) (v := ?_) (a' := ?_) (mB_ 13 15) rfl rfl (any_of HT_.out (by kernel_rfl)) (fun _ _ _ h => h) (Or.inl ⟨by rfl, ?_⟩) ?_ ?_; rotate_left; (· intro w'; go_simp; (with_reducible rfl))
       rotate_left; (· simp only [Act.put, pU_]; rfl); refine pz_ (i := 4) (N := some 11) (mB_ 13 31) (any_of HT_.out (by kernel_rfl)) (h := ?_); refine pz_ (i := 5) (N := some 12) (mB_ 13 63) (any_of HT_.out (by kernel_rfl)) (h := ?_); refine pz_ (i := 8) (N := some 15) (mB_ 13 319) (any_of HT_.out (by kernel_rfl)) (h := ?_); refine take_ (i := 9) (N := some 16) (v := ?_) (a' := ?_) (mB_ 13 831) rfl rfl (take_ofW HT_.out HW_.out (by kernel_rfl)) (fun _ _ _ h => h) (Or.inl ⟨by rfl, ?_⟩) hHeld ?_ ?_; rotate_left; (· intro w' s0; go_simp; (with_reducible rfl)); rotate_left; (· simp only [Act.put, pU_]; rfl); refine one_ (i := 6) (N := some 13) (mB_ 13 895) rfl rfl (one_of HT_.out (by kernel_rfl)) (by decide) (fun K hK => ?_); (refine goes_ Tryd.func21 (by kernel_rfl) rfl #[.slice A0 (l0.take ((ji3) : Int).toNat).length c0] (by rfl) rfl rfl (by (try simp only [mA_, mC_, mN_]); first | done | (rw [show (l0.take ((ji3) : Int).toNat).length = (ji3).toNat from (by rw [lT_]; have h_ : ((ji3) : Int) ≤ (l0.length : Int) := oD_ (by assumption); omega)] <;> rfl) | (simp only [hji3]; rfl) | rfl | (simp only [lD_, lT_]; rfl)) ?_); (with_reducible refine (crc_Bytes.calls k _ _ (l0.take ((ji3) : Int).toNat) t373 _ ?side1 ?side2 A6.out).mono ?_); (case side1 => exact cZ_ (Kd.C_below HR372.out HB.out)); (case side2 => exact HC372.out); rintro e w9 ⟨v374, rfl, ho0, hb⟩; refine ⟨_, rfl, ?_⟩; have n0_ := aM_ (Kd.R_lower ho0 (bZ_ (bZ0_ HB.out)))
       have n1_ := aM_ (bT_ (bZ0_ HB.out) hb); clear HB; have HO375 := n0_; have HB := n1_; clear n0_ n1_; (try clear hb); (try clear hb2); (try clear hk); (try clear hi); (try clear ho0); refine hK.out _ _ (Kd.C_string (P := Tryd.prog) (A := A0) (c := c0) Tryd.underlying22 Tryd.underlying5 Tryd.underlying9 (Kd.C_below HR0.out HB.out)) (fun hHeld => ?_); clear hK K; refine norm_ (a' := ?_) ?_ ?_; rotate_left; (· show Act.put _ (some 13) _ = _; simp only [Act.put, pU_]; rfl); refine one_ (i := 7) (N := some 14) (mB_ 13 1023) rfl rfl (one_of HT_.out (by kernel_rfl)) (by decide) (fun K hK => ?_); have hcv10 := own_string (P := Tryd.prog) Tryd.underlying22 Tryd.underlying5 Tryd.underlying9 (Kd.own_of_R HO375.out); refine value_ (w1 := ?_) (v := ?_) (by rfl) rfl ?_ ?_; rotate_left 2
       · go_simp
         constructor
         (· rfl); (· rfl)
       clear hcv10; refine hK.out _ _ (Kd.C_string (P := Tryd.prog) (A := A0) (c := c0) Tryd.underlying22 Tryd.underlying5 Tryd.underlying9 (Kd.C_below HR0.out HB.out)) (fun hHeld => ?_); clear hK K; refine norm_ (a' := ?_) ?_ ?_; rotate_left; (· show Act.put _ (some 14) _ = _; simp only [Act.put, pU_]; rfl); refine pz_ (i := 10) (N := some 17) (mB_ 13 2047) (any_of HT_.out (by kernel_rfl)) (h := ?_); refine pz_ (i := 11) (N := some 18) (mB_ 13 4095) (any_of HT_.out (by kernel_rfl)) (h := ?_); refine pz_ (i := 12) (N := some 2) (mB_ 13 8191) (any_of HT_.out (by kernel_rfl)) (h := ?_); refine done_ (done_of HT_.out (by kernel_rfl)) ?_; (try go_wp2); go_ret; (exact ⟨by first | rfl | (simp [errW_none, errW_some] <;> rfl) | (simp only [← hji3]; first | rfl | (simp [errW_none, errW_some] <;> rfl)) | (simp [*, errW_none, errW_some] <;> rfl), by exact bZ0_ HB.out⟩)
     (· rw [if_neg c5] at H; exact absurd H (by simp))
   (· rw [if_neg c4] at H; exact absurd H (by simp))
 · rw [if_neg c2] at H
   have c2b0 : decide (0 ≤ (wrap64 ((l0.length : Int) - 4))) = false := decide_eq_false c2; clear c2; obtain rfl := oJ_ H; simp only [oI_, pI_] at H; obtain ⟨rfl⟩ := H; (go_enter Tryd.func44, Tryd.ntmps44); (try go_wp2); have n0_ := aM_ (bD_ HB.out); clear HB; have HB := n0_; clear n0_; refine start_ (n := 13) (S := fun w' => True) (ds := []) (mB_ 13 0) (by kernel_rfl) rfl rfl trivial (fun hHeld => ?_); refine with_tabW crc_Right.tab2 crc_Right.bits2 (fun HT_ HW_ => ?_); generalize w.drew = w11 at HB hHeld ⊢; refine pz_ (i := 0) (N := some 7) (mB_ 13 1) (any_of HT_.out (by kernel_rfl)) (h := ?_); refine pz_ (i := 1) (N := some 8) (mB_ 13 3) (any_of HT_.out (by kernel_rfl)) (h := ?_); refine pz_ (i := 2) (N := some 9) (mB_ 13 7) (any_of HT_.out (by kernel_rfl)) (h := ?_); refine pure_ (i := 3) (N := some 10) (v := undef) (a' := ?_) (mB_ 13 15) rfl rfl (any_of HT_.out (by kernel_rfl)) (fun _ _ _ h => h) (Or.inr ⟨by rfl, rfl⟩) ?_ ?_; rotate_left; (· simp only [Act.put, pU_]; rfl); refine pure_ (i := 4) (N := some 11) (v := undef) (a' := ?_) (mB_ 13 31) rfl rfl (any_of HT_.out (by kernel_rfl)) (fun _ _ _ h => h) (Or.inr ⟨by rfl, rfl⟩) ?_ ?_; rotate_left; (· simp only [Act.put, pU_]; rfl); refine pure_ (i := 5) (N := some 12) (v := undef) (a' := ?_) (mB_ 13 63) rfl rfl (any_of HT_.out (by kernel_rfl)) (fun _ _ _ h => h) (Or.inr ⟨by rfl, rfl⟩) ?_ ?_; rotate_left; (· simp only [Act.put, pU_]; rfl); refine pure_ (i := 6) (N := some 13) (v := undef) (a' := ?_) (mB_ 13 127) rfl rfl (any_of HT_.out (by kernel_rfl)) (fun _ _ _ h => h) (Or.inr ⟨by rfl, rfl⟩) ?_ ?_
   rotate_left; (· simp only [Act.put, pU_]; rfl); refine pure_ (i := 7) (N := some 14) (v := undef) (a' := ?_) (mB_ 13 255) rfl rfl (any_of HT_.out (by kernel_rfl)) (fun _ _ _ h => h) (Or.inr ⟨by rfl, rfl⟩) ?_ ?_; rotate_left; (· simp only [Act.put, pU_]; rfl); refine pure_ (i := 8) (N := some 15) (v := undef) (a' := ?_) (mB_ 13 511) rfl rfl (any_of HT_.out (by kernel_rfl)) (fun _ _ _ h => h) (Or.inr ⟨by rfl, rfl⟩) ?_ ?_; rotate_left; (· simp only [Act.put, pU_]; rfl); refine pure_ (i := 9) (N := some 16) (v := undef) (a' := ?_) (mB_ 13 1023) rfl rfl (any_of HT_.out (by kernel_rfl)) (fun _ _ _ h => h) (Or.inr ⟨by rfl, rfl⟩) ?_ ?_; rotate_left; (· simp only [Act.put, pU_]; rfl); refine pure_ (i := 10) (N := some 17) (v := undef) (a' := ?_) (mB_ 13 2047) rfl rfl (any_of HT_.out (by kernel_rfl)) (fun _ _ _ h => h) (Or.inr ⟨by rfl, rfl⟩) ?_ ?_; rotate_left; (· simp only [Act.put, pU_]; rfl); refine pz_ (i := 11) (N := some 18) (mB_ 13 4095) (any_of HT_.out (by kernel_rfl)) (h := ?_); refine pz_ (i := 12) (N := some 2) (mB_ 13 8191) (any_of HT_.out (by kernel_rfl)) (h := ?_); refine done_ (done_of HT_.out (by kernel_rfl)) ?_; (try go_wp2); go_ret; (exact ⟨by first | rfl | (simp [errW_none, errW_some] <;> rfl) | (simp [*, errW_none, errW_some] <;> rfl), by exact bZ0_ HB.out⟩)
end Go.Proofs.YtbnkcbfhappgnaaDoor.Fn
