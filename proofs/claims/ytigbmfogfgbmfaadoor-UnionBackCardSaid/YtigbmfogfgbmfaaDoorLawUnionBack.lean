-- written by a program of this session (hprint.py, over the kit's print) out of the translation
import Derived.Test.YtigbmfogfgbmfaaDoorRows
import Derived.Test.YtigbmfogfgbmfaaDoorHx13
import Derived.Test.YtigbmfogfgbmfaaDoorPureUnionBack
import Derived.Test.YtigbmfogfgbmfaaDoorO
import Derived.WalkKit
import Derived.ProofKit
import Derived.OpenShut
import Derived.ShutString
import Derived.ChangeOld
import Derived.Below
import Derived.SizedLaws
import Derived.Handed
import Derived.SevenTiedAt
import Derived.Test.YtigbmfogfgbmfaaDoorGL
import Derived.Test.YtigbmfogfgbmfaaDoorTie
import Derived.Test.YtigbmfogfgbmfaaDoorCards
namespace Go.Proofs.YtigbmfogfgbmfaaDoor.unionBack
open Go.ChangeShapes Go.WideShapes Go.ChangeAt Go.RowKit
open Go.ChangeMaps (open_string shut_string)
open Go.Proofs.YtigbmfogfgbmfaaDoorW.PrintWords Go.Proofs.YtigbmfogfgbmfaaDoor.Fn
set_option linter.unusedVariables false
theorem own : ownKnob Tryd.prog.godebug = none := by kernel_rfl
theorem laidOut : laidOutB Tryd.prog = true := by kernel_rfl
set_option maxRecDepth 100000 in
theorem lifted (os : Os) (started : os.Started) (H : Type) (enc : TypeId × Value → H) :
    ReturnsInHanded {} Tryd.checked os 6 .any (fun w args => (Rows.unionBackSpec.pre enc Tryd.prog Tryd.f6 [] false w args ∧ laidMetH Tryd.prog Fn.laid w) ∧ sizedMet enc Tryd.prog Tryd.f6 (OpenSpec.ofChange Rows.unionBackSpec) false w args) (Rows.unionBackSpec.post enc Tryd.prog Tryd.f6 false true false false) := by
  refine returnsInHanded_of_change_and (C := Tryd.checked) (X := fun w _ => laidMetH Tryd.prog Fn.laid w) (fun _ _ _ hh h => h.of_heap hh) own started (by kernel_rfl) Tryd.func6
    (ChangeSpec.witness_shaped (enc := enc) (C := Tryd.checked) (os := os) (X := fun w _ => laidMetH Tryd.prog Fn.laid w) false (Fn.laidWorld os) #[.slice none 0 0, .slice none 0 0, .slice none 0 0, .slice none 0 0] 8 (Fn.laidWorld_os os) (World.shaped_of_ZipB (by kernel_rfl) (by kernel_rfl)) (by kernel_rfl) (by kernel_rfl) (by kernel_rfl) (Fn.laidWorld_met os _)) ?_
  intro W base args ds gs before hval0 hW hcnd hsz0 hL _
  have hG := Fn.glob_of_laid hL
  have hsz : (DataW.weightsEach Tryd.prog (Tryd.f6.params.toList ++ Rows.unionBackSpec.plain.varTypes Tryd.prog) (ds ++ gs)).all (· ≤ reachBytes) = true := hsz0
  have hval : ∀ (j : Nat) t v, Tryd.f6.params[j]? = some t → args[j]? = some v → Value.okWide Tryd.prog W .any base t v := hval0
  have hW' := hW
  obtain ⟨p, q, hA0, hV, rfl, hfz, hnd⟩ := hW
  have hA : DataW.TrodAll enc Tryd.prog W 0 (fun _ => true) true Tryd.f6.params.toList args.toList ds p := hA0
  rw [Tryd.params6] at hA hval hsz
  obtain ⟨v0, vs0, d0, ds0, p0, q0, hargs, rfl, rfl, h0, r0⟩ := trodAll_cons hA
  obtain ⟨v1, vs1, d1, ds1, p1, q1, rfl, rfl, rfl, h1, r1⟩ := trodAll_cons r0
  obtain ⟨v2, vs2, d2, ds2, p2, q2, rfl, rfl, rfl, h2, r2⟩ := trodAll_cons r1
  obtain ⟨v3, vs3, d3, ds3, p3, q3, rfl, rfl, rfl, h3, r3⟩ := trodAll_cons r2
  obtain ⟨rfl, rfl, rfl⟩ := trodAll_nil r3
  obtain rfl : args = #[v0, v1, v2, v3] := by cases args; simp_all
  obtain ⟨rfl, rfl⟩ := trodVars_none hV
  have lt0 : ∀ x ∈ p0, x.block < W.heap.size := by obtain ⟨m, hm⟩ := h0; exact DataW.trod_lt m _ _ _ hm
  obtain ⟨x0, hK0, hO0⟩ := Opens.param (Opens.slice Tryd.underlying22 (by kernel_rfl) (by kernel_rfl) (Opens.string Tryd.underlying9)) hsz (j := 0) (t := 22) rfl rfl h0
  obtain ⟨cs0, hcs0, hK0⟩ : ∃ l_, v0.cells.toList = l_ ∧ Kd.K (Kd.slice 9 Kd.string) W x0 l_ := ⟨_, rfl, hK0⟩
  obtain ⟨A0, c0, rfl, hl0, hC0⟩ := hK0
  obtain ⟨a0, len0, cap0, rfl⟩ := okWide_slice Tryd.underlying22 (hval 0 22 v0 rfl rfl)
  obtain ⟨rfl, rfl, rfl⟩ := slice_of hcs0
  have lt1 : ∀ x ∈ p1, x.block < W.heap.size := by obtain ⟨m, hm⟩ := h1; exact DataW.trod_lt m _ _ _ hm
  obtain ⟨x1, hK1, hO1⟩ := Opens.param (Opens.slice Tryd.underlying23 (by kernel_rfl) (by kernel_rfl) (Opens.int Tryd.underlying3)) hsz (j := 1) (t := 23) rfl rfl h1
  obtain ⟨cs1, hcs1, hK1⟩ : ∃ l_, v1.cells.toList = l_ ∧ Kd.K (Kd.slice 3 (Kd.int .i64)) W x1 l_ := ⟨_, rfl, hK1⟩
  obtain ⟨A1, c1, rfl, hl1, hC1⟩ := hK1
  obtain ⟨a1, len1, cap1, rfl⟩ := okWide_slice Tryd.underlying23 (hval 1 23 v1 rfl rfl)
  obtain ⟨rfl, rfl, rfl⟩ := slice_of hcs1
  have lt2 : ∀ x ∈ p2, x.block < W.heap.size := by obtain ⟨m, hm⟩ := h2; exact DataW.trod_lt m _ _ _ hm
  obtain ⟨x2, hK2, hO2⟩ := Opens.param (Opens.slice Tryd.underlying22 (by kernel_rfl) (by kernel_rfl) (Opens.string Tryd.underlying9)) hsz (j := 2) (t := 22) rfl rfl h2
  obtain ⟨cs2, hcs2, hK2⟩ : ∃ l_, v2.cells.toList = l_ ∧ Kd.K (Kd.slice 9 Kd.string) W x2 l_ := ⟨_, rfl, hK2⟩
  obtain ⟨A2, c2, rfl, hl2, hC2⟩ := hK2
  obtain ⟨a2, len2, cap2, rfl⟩ := okWide_slice Tryd.underlying22 (hval 2 22 v2 rfl rfl)
  obtain ⟨rfl, rfl, rfl⟩ := slice_of hcs2
  have lt3 : ∀ x ∈ p3, x.block < W.heap.size := by obtain ⟨m, hm⟩ := h3; exact DataW.trod_lt m _ _ _ hm
  obtain ⟨x3, hK3, hO3⟩ := Opens.param (Opens.slice Tryd.underlying23 (by kernel_rfl) (by kernel_rfl) (Opens.int Tryd.underlying3)) hsz (j := 3) (t := 23) rfl rfl h3
  obtain ⟨cs3, hcs3, hK3⟩ : ∃ l_, v3.cells.toList = l_ ∧ Kd.K (Kd.slice 3 (Kd.int .i64)) W x3 l_ := ⟨_, rfl, hK3⟩
  obtain ⟨A3, c3, rfl, hl3, hC3⟩ := hK3
  obtain ⟨a3, len3, cap3, rfl⟩ := okWide_slice Tryd.underlying23 (hval 3 23 v3 rfl rfl)
  obtain ⟨rfl, rfl, rfl⟩ := slice_of hcs3
  obtain ⟨k, hp⟩ := Pure.UnionBack x0 x1 x2 x3 hO0 hO1 hO2 hO3
  refine (Fn.l21_UnionBack.calls k _ _ x0 _ _ x1 _ _ x2 _ _ x3 true W hC0 hl0 hC1 hl1 hC2 hl2 hC3 hl3 hG rfl hp).mono fun e W' he_ => ?_
  obtain ⟨he, bel0⟩ := he_
  have bel : Below W.heap.size W W' := bel0
  subst he
  exact ⟨_, rfl, _, _, _, [], _, [], hW', trodAll_mk1 (shut_bool Tryd.underlying4 _), (trodAll_cons_mk (Below.trod laidOut (by kernel_rfl) (of_decide_eq_true (by kernel_rfl)) h0 bel lt0) (trodAll_cons_mk (Below.trod laidOut (by kernel_rfl) (of_decide_eq_true (by kernel_rfl)) h1 bel lt1) (trodAll_cons_mk (Below.trod laidOut (by kernel_rfl) (of_decide_eq_true (by kernel_rfl)) h2 bel lt2) (trodAll_cons_mk (Below.trod laidOut (by kernel_rfl) (of_decide_eq_true (by kernel_rfl)) h3 bel lt3) trodAll_mk0)))), rfl, bel.frame _, fun h => by cases h⟩
theorem over : Rows.unionBackRow.holds Tryd.pinned (OpenSpec.ofChange Rows.unionBackSpec) :=
  OpenClaim.holds_of_wide 6 Tryd.f6 rfl rfl rfl rfl rfl rfl rfl ⟨rfl, rfl, rfl, rfl, rfl⟩ rfl rfl rfl rfl rfl (by kernel_rfl) Tryd.func6 (by kernel_rfl)
    (of_decide_eq_true (by kernel_rfl)) (by unfold Func.isWrapper; first | (rw [if_pos (by decide +kernel)]; kernel_rfl) | (rw [if_neg (by decide +kernel)]; exact ⟨rfl, rfl⟩))
    (fun os started H enc _ => lifted os started H enc)
theorem proved : Rows.UnionBackCardSaid :=
  Claim7.holds_tied_plain_at .later [] [.data, .pinned] true (true, "047a678f5d902e3caa2057f700b8d253d216bf7edff80115754bbae74a789b99") true
    over (fun _ h => by cases h) (by kernel_rfl) (fun _ h => by cases h) unionBack_row_tie rfl ⟨rfl, rfl⟩ (by kernel_rfl) rfl
    (fun f fn hf hfn => by
      obtain rfl : f = 6 := Option.some.inj ((show Tryd.prog.funcNamed "palimpsest/palimpsestlaw21.UnionBack" = some 6 by kernel_rfl).symm.trans hf) |>.symm
      obtain rfl : fn = Tryd.f6 := (Option.some.inj (Tryd.func6.symm.trans hfn)).symm
      exact ⟨by kernel_rfl, fun j t ht => by
        rw [Tryd.params6] at ht
        have hm := Array.mem_of_getElem? ht
        have ha : (#[22, 23, 22, 23] : Array TypeId).all (fun t => !Tryd.prog.wantsStandIn t) = true := by kernel_rfl
        have hb := Array.all_eq_true_iff_forall_mem.1 ha t hm
        exact (show Tryd.prog.wantsStandIn t = false by simpa using hb)⟩)
    (by kernel_rfl)
#print axioms proved
end Go.Proofs.YtigbmfogfgbmfaaDoor.unionBack
namespace Go.Proofs.YtigbmfogfgbmfaaDoor
/-- The row, under a short name, for the claim. -/
theorem unionBack_holds : Rows.UnionBackCardSaid := unionBack.proved
end Go.Proofs.YtigbmfogfgbmfaaDoor
