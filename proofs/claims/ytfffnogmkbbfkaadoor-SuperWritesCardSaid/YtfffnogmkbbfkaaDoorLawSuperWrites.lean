-- written by a program of this session (hprint.py, over the kit's print) out of the translation
import Derived.Test.YtfffnogmkbbfkaaDoorRows
import Derived.Test.YtfffnogmkbbfkaaDoorHx13
import Derived.Test.YtfffnogmkbbfkaaDoorPureSuperWrites
import Derived.Test.YtfffnogmkbbfkaaDoorO
import Derived.WalkKit
import Derived.ProofKit
import Derived.OpenShut
import Derived.ShutString
import Derived.ChangeOld
import Derived.Below
import Derived.SizedLaws
import Derived.Handed
import Derived.SevenTiedAt
import Derived.Test.YtfffnogmkbbfkaaDoorGL
import Derived.Test.YtfffnogmkbbfkaaDoorTie
import Derived.Test.YtfffnogmkbbfkaaDoorCards
namespace Go.Proofs.YtfffnogmkbbfkaaDoor.superWrites
open Go.ChangeShapes Go.WideShapes Go.ChangeAt Go.RowKit
open Go.ChangeMaps (open_string shut_string)
open Go.Proofs.YtfffnogmkbbfkaaDoorW.PrintWords Go.Proofs.YtfffnogmkbbfkaaDoor.Fn
set_option linter.unusedVariables false
theorem own : ownKnob Tryd.prog.godebug = none := by kernel_rfl
theorem laidOut : laidOutB Tryd.prog = true := by kernel_rfl
set_option maxRecDepth 100000 in
theorem lifted (os : Os) (started : os.Started) (H : Type) (enc : TypeId × Value → H) :
    ReturnsInHanded {} Tryd.checked os 5 .any (fun w args => (Rows.superWritesSpec.pre enc Tryd.prog Tryd.f5 [] false w args ∧ laidMetH Tryd.prog Fn.laid w) ∧ sizedMet enc Tryd.prog Tryd.f5 (OpenSpec.ofChange Rows.superWritesSpec) false w args) (Rows.superWritesSpec.post enc Tryd.prog Tryd.f5 false true false false) := by
  refine returnsInHanded_of_change_and (C := Tryd.checked) (X := fun w _ => laidMetH Tryd.prog Fn.laid w) (fun _ _ _ hh h => h.of_heap hh) own started (by kernel_rfl) Tryd.func5
    (ChangeSpec.witness_shaped (enc := enc) (C := Tryd.checked) (os := os) (X := fun w _ => laidMetH Tryd.prog Fn.laid w) false (Fn.laidWorld os) #[.agg #[.int .i64 0, .string ByteArray.empty, .slice none 0 0], .slice none 0 0] 8 (Fn.laidWorld_os os) (World.shaped_of_ZipB (by kernel_rfl) (by kernel_rfl)) (by kernel_rfl) (by kernel_rfl) (by kernel_rfl) (Fn.laidWorld_met os _)) ?_
  intro W base args ds gs before hval0 hW hcnd hsz0 hL _
  have hG := Fn.glob_of_laid hL
  have hsz : (DataW.weightsEach Tryd.prog (Tryd.f5.params.toList ++ Rows.superWritesSpec.plain.varTypes Tryd.prog) (ds ++ gs)).all (· ≤ reachBytes) = true := hsz0
  have hval : ∀ (j : Nat) t v, Tryd.f5.params[j]? = some t → args[j]? = some v → Value.okWide Tryd.prog W .any base t v := hval0
  have hW' := hW
  obtain ⟨p, q, hA0, hV, rfl, hfz, hnd⟩ := hW
  have hA : DataW.TrodAll enc Tryd.prog W 0 (fun _ => true) true Tryd.f5.params.toList args.toList ds p := hA0
  rw [Tryd.params5] at hA hval hsz
  obtain ⟨v0, vs0, d0, ds0, p0, q0, hargs, rfl, rfl, h0, r0⟩ := trodAll_cons hA
  obtain ⟨v1, vs1, d1, ds1, p1, q1, rfl, rfl, rfl, h1, r1⟩ := trodAll_cons r0
  obtain ⟨rfl, rfl, rfl⟩ := trodAll_nil r1
  obtain rfl : args = #[v0, v1] := by cases args; simp_all
  obtain ⟨rfl, rfl⟩ := trodVars_none hV
  have lt0 : ∀ x ∈ p0, x.block < W.heap.size := by obtain ⟨m, hm⟩ := h0; exact DataW.trod_lt m _ _ _ hm
  obtain ⟨x0, hK0, hO0⟩ := Opens.param (show Opens Tryd.prog 25 k25 (fun x_ : S25 => (okInt .i64) x_.f0 ∧ okStr x_.f1 ∧ (okRow 8 (okInt .i64)) x_.f2) from Opens.iso _ (fun b_ => (⟨b_.1, b_.2.1, b_.2.2⟩ : S25)) (fun _ => rfl) (fun _ h_ => h_) (Opens.struct Tryd.underlying25 (by kernel_rfl) (OpensFs.step (by kernel_rfl) (by kernel_rfl) (Opens.int Tryd.underlying3) (OpensFs.step (by kernel_rfl) (by kernel_rfl) (Opens.string Tryd.underlying22) (OpensFs.last (by kernel_rfl) (by kernel_rfl) (Opens.slice Tryd.underlying23 (by kernel_rfl) (by kernel_rfl) (Opens.int Tryd.underlying3))))))) hsz (j := 0) (t := 25) rfl rfl h0
  obtain ⟨cs0, hcs0, hK0⟩ : ∃ l_, v0.cells.toList = l_ ∧ Kd.K k25 W x0 l_ := ⟨_, rfl, hK0⟩
  obtain ⟨_, _, rfl, rfl, ⟨_, _, rfl, rfl, ⟨A0_2, c0_2, rfl, hl0_2, hC0_2⟩⟩⟩ := hK0
  obtain ⟨ag0, rfl, hag0⟩ := okWide_struct Tryd.underlying25 (hval 0 25 v0 rfl rfl)
  have hagg0 := agg_of hcs0
  rw [hagg0] at h0 hW' ⊢
  have lt1 : ∀ x ∈ p1, x.block < W.heap.size := by obtain ⟨m, hm⟩ := h1; exact DataW.trod_lt m _ _ _ hm
  obtain ⟨x1, hK1, hO1⟩ := Opens.param (Opens.slice Tryd.underlying26 (by kernel_rfl) (by kernel_rfl) (Opens.int Tryd.underlying5)) hsz (j := 1) (t := 26) rfl rfl h1
  obtain ⟨cs1, hcs1, hK1⟩ : ∃ l_, v1.cells.toList = l_ ∧ Kd.K (Kd.slice 5 (Kd.int .u8)) W x1 l_ := ⟨_, rfl, hK1⟩
  obtain ⟨A1, c1, rfl, hl1, hC1⟩ := hK1
  obtain ⟨a1, len1, cap1, rfl⟩ := okWide_slice Tryd.underlying26 (hval 1 26 v1 rfl rfl)
  obtain ⟨rfl, rfl, rfl⟩ := slice_of hcs1
  obtain ⟨k, hp⟩ := Pure.SuperWrites x0.f0 x0.f1 x0.f2 x1 hO0.1 hO0.2.1 hO0.2.2 hO1
  refine (Fn.l11_SuperWrites.calls k x0.f0 x0.f1 _ _ x0.f2 _ _ x1 true W hC0_2 hl0_2 hC1 hl1 rfl hp).mono fun e W' he_ => ?_
  obtain ⟨he, bel0⟩ := he_
  have bel : Below W.heap.size W W' := bel0
  subst he
  exact ⟨_, rfl, _, _, _, [], _, [], hW', trodAll_mk1 (shut_bool Tryd.underlying4 _), (trodAll_cons_mk (Below.trod laidOut (by kernel_rfl) (of_decide_eq_true (by kernel_rfl)) h0 bel lt0) (trodAll_cons_mk (Below.trod laidOut (by kernel_rfl) (of_decide_eq_true (by kernel_rfl)) h1 bel lt1) trodAll_mk0)), rfl, bel.frame _, fun h => by cases h⟩
theorem over : Rows.superWritesRow.holds Tryd.pinned (OpenSpec.ofChange Rows.superWritesSpec) :=
  OpenClaim.holds_of_wide 5 Tryd.f5 rfl rfl rfl rfl rfl rfl rfl ⟨rfl, rfl, rfl, rfl, rfl⟩ rfl rfl rfl rfl rfl (by kernel_rfl) Tryd.func5 (by kernel_rfl)
    (of_decide_eq_true (by kernel_rfl)) (by unfold Func.isWrapper; first | (rw [if_pos (by decide +kernel)]; kernel_rfl) | (rw [if_neg (by decide +kernel)]; exact ⟨rfl, rfl⟩))
    (fun os started H enc _ => lifted os started H enc)
theorem proved : Rows.SuperWritesCardSaid :=
  Claim7.holds_tied_plain_at .later [] [.data, .pinned] true (true, "10f3b6a735fe05035d765c5efa1797c699250f1045a49d2bf56bcf9af925f6f7") false
    over (fun _ h => by cases h) (by kernel_rfl) (fun _ h => by cases h) superWrites_row_tie rfl ⟨rfl, rfl⟩ (by kernel_rfl) rfl
    (fun f fn hf hfn => by
      obtain rfl : f = 5 := Option.some.inj ((show Tryd.prog.funcNamed "palimpsest/palimpsestlaw11.SuperWrites" = some 5 by kernel_rfl).symm.trans hf) |>.symm
      obtain rfl : fn = Tryd.f5 := (Option.some.inj (Tryd.func5.symm.trans hfn)).symm
      exact ⟨by kernel_rfl, fun j t ht => by
        rw [Tryd.params5] at ht
        have hm := Array.mem_of_getElem? ht
        have ha : (#[25, 26] : Array TypeId).all (fun t => !Tryd.prog.wantsStandIn t) = true := by kernel_rfl
        have hb := Array.all_eq_true_iff_forall_mem.1 ha t hm
        exact (show Tryd.prog.wantsStandIn t = false by simpa using hb)⟩)
    (by kernel_rfl)
#print axioms proved
end Go.Proofs.YtfffnogmkbbfkaaDoor.superWrites
namespace Go.Proofs.YtfffnogmkbbfkaaDoor
/-- The row, under a short name, for the claim. -/
theorem superWrites_holds : Rows.SuperWritesCardSaid := superWrites.proved
end Go.Proofs.YtfffnogmkbbfkaaDoor
