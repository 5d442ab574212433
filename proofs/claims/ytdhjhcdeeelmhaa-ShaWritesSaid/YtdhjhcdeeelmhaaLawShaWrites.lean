-- written by a program of this session (hprint.py, over the kit's print) out of the translation
import Derived.Test.YtdhjhcdeeelmhaaRows
import Derived.Test.YtdhjhcdeeelmhaaHx12
import Derived.Test.YtdhjhcdeeelmhaaPureShaWrites
import Derived.Test.YtdhjhcdeeelmhaaO
import Derived.WalkKit
import Derived.ProofKit
import Derived.OpenShut
import Derived.ShutString
import Derived.ChangeOld
import Derived.Below
import Derived.SizedLaws
namespace Go.Proofs.Ytdhjhcdeeelmhaa.shaWrites
open Go.ChangeShapes Go.WideShapes Go.ChangeAt Go.RowKit
open Go.ChangeMaps (open_string shut_string)
open Go.Proofs.YtdhjhcdeeelmhaaW.PrintWords Go.Proofs.Ytdhjhcdeeelmhaa.Fn
set_option linter.unusedVariables false
theorem own : ownKnob Try.prog.godebug = none := by kernel_rfl
theorem laidOut : laidOutB Try.prog = true := by kernel_rfl
set_option maxRecDepth 100000 in
theorem lifted (os : Os) (started : os.Started) (H : Type) (enc : TypeId × Value → H) :
    ReturnsInHanded {} Try.checked os 4 .any (Rows.shaWritesSpec.pre6 enc Try.prog Try.f4 Rows.shaWritesRow.domain false) (Rows.shaWritesSpec.post enc Try.prog Try.f4 false true false false) := by
  refine returnsInHanded_of_change_sized (C := Try.checked) own started (by kernel_rfl) Try.func4
    (ChangeSpec.witness6 (enc := enc) (C := Try.checked) false ⟨#[], #[.agg #[.slice none 0 0, .slice none 0 0, .int .u64 0], .slice none 0 0], []⟩ 8 (by kernel_rfl) (by kernel_rfl) (by kernel_rfl) (by kernel_rfl)) ?_
  intro W base args ds gs before hval0 hW hcnd hsz0 _
  have hsz : (DataW.weightsEach Try.prog (Try.f4.params.toList ++ Rows.shaWritesSpec.plain.varTypes Try.prog) (ds ++ gs)).all (· ≤ reachBytes) = true := hsz0
  have hval : ∀ (j : Nat) t v, Try.f4.params[j]? = some t → args[j]? = some v → Value.okWide Try.prog W .any base t v := hval0
  have hW' := hW
  obtain ⟨p, q, hA0, hV, rfl, hfz, hnd⟩ := hW
  have hA : DataW.TrodAll enc Try.prog W 0 (fun _ => true) true Try.f4.params.toList args.toList ds p := hA0
  rw [Try.params4] at hA hval hsz
  obtain ⟨v0, vs0, d0, ds0, p0, q0, hargs, rfl, rfl, h0, r0⟩ := trodAll_cons hA
  obtain ⟨v1, vs1, d1, ds1, p1, q1, rfl, rfl, rfl, h1, r1⟩ := trodAll_cons r0
  obtain ⟨rfl, rfl, rfl⟩ := trodAll_nil r1
  obtain rfl : args = #[v0, v1] := by cases args; simp_all
  obtain ⟨rfl, rfl⟩ := trodVars_none hV
  have lt0 : ∀ x ∈ p0, x.block < W.heap.size := by obtain ⟨m, hm⟩ := h0; exact DataW.trod_lt m _ _ _ hm
  obtain ⟨x0, hK0, hO0⟩ := Opens.param (show Opens Try.prog 26 k26 (fun x_ : S26 => (okRow 4 (okInt .u32)) x_.f0 ∧ (okRow 1 (okInt .u8)) x_.f1 ∧ (okInt .u64) x_.f2) from Opens.iso _ (fun b_ => (⟨b_.1, b_.2.1, b_.2.2⟩ : S26)) (fun _ => rfl) (fun _ h_ => h_) (Opens.struct Try.underlying26 (by kernel_rfl) (OpensFs.step (by kernel_rfl) (by kernel_rfl) (Opens.slice Try.underlying22 (by kernel_rfl) (by kernel_rfl) (Opens.int Try.underlying39)) (OpensFs.step (by kernel_rfl) (by kernel_rfl) (Opens.slice Try.underlying23 (by kernel_rfl) (by kernel_rfl) (Opens.int Try.underlying5)) (OpensFs.last (by kernel_rfl) (by kernel_rfl) (Opens.int Try.underlying24)))))) hsz (j := 0) (t := 26) rfl rfl h0
  obtain ⟨cs0, hcs0, hK0⟩ : ∃ l_, v0.cells.toList = l_ ∧ Kd.K k26 W x0 l_ := ⟨_, rfl, hK0⟩
  obtain ⟨_, _, rfl, ⟨A0_0, c0_0, rfl, hl0_0, hC0_0⟩, ⟨_, _, rfl, ⟨A0_1, c0_1, rfl, hl0_1, hC0_1⟩, rfl⟩⟩ := hK0
  obtain ⟨ag0, rfl, hag0⟩ := okWide_struct Try.underlying26 (hval 0 26 v0 rfl rfl)
  have hagg0 := agg_of hcs0
  rw [hagg0] at h0 hW' ⊢
  have lt1 : ∀ x ∈ p1, x.block < W.heap.size := by obtain ⟨m, hm⟩ := h1; exact DataW.trod_lt m _ _ _ hm
  obtain ⟨x1, hK1, hO1⟩ := Opens.param (Opens.slice Try.underlying23 (by kernel_rfl) (by kernel_rfl) (Opens.int Try.underlying5)) hsz (j := 1) (t := 23) rfl rfl h1
  obtain ⟨cs1, hcs1, hK1⟩ : ∃ l_, v1.cells.toList = l_ ∧ Kd.K (Kd.slice 5 (Kd.int .u8)) W x1 l_ := ⟨_, rfl, hK1⟩
  obtain ⟨A1, c1, rfl, hl1, hC1⟩ := hK1
  obtain ⟨a1, len1, cap1, rfl⟩ := okWide_slice Try.underlying23 (hval 1 23 v1 rfl rfl)
  obtain ⟨rfl, rfl, rfl⟩ := slice_of hcs1
  obtain ⟨k, hp⟩ := Pure.ShaWrites x0.f0 x0.f1 x0.f2 x1 hO0.1 hO0.2.1 hO0.2.2 hO1
  refine (Fn.l04_ShaWrites.calls k _ _ x0.f0 _ _ x0.f1 x0.f2 _ _ x1 true W hC0_0 hl0_0 hC0_1 hl0_1 hC1 hl1 rfl hp).mono fun e W' he_ => ?_
  obtain ⟨he, bel0⟩ := he_
  have bel : Below W.heap.size W W' := bel0
  subst he
  exact ⟨_, rfl, _, _, _, [], _, [], hW', trodAll_mk1 (shut_bool Try.underlying4 _), (trodAll_cons_mk (Below.trod laidOut (by kernel_rfl) (of_decide_eq_true (by kernel_rfl)) h0 bel lt0) (trodAll_cons_mk (Below.trod laidOut (by kernel_rfl) (of_decide_eq_true (by kernel_rfl)) h1 bel lt1) trodAll_mk0)), rfl, bel.frame _, fun h => by cases h⟩
theorem over : Rows.shaWritesRow.holds Try.pinned (OpenSpec.ofChange Rows.shaWritesSpec) :=
  OpenClaim.holds_of_wide 4 Try.f4 rfl rfl rfl rfl rfl rfl rfl ⟨rfl, rfl, rfl, rfl, rfl⟩ rfl rfl rfl rfl rfl (by kernel_rfl) Try.func4 (by kernel_rfl)
    (of_decide_eq_true (by kernel_rfl)) (by unfold Func.isWrapper; first | (rw [if_pos (by decide +kernel)]; kernel_rfl) | (rw [if_neg (by decide +kernel)]; exact ⟨rfl, rfl⟩))
    (fun os started H enc _ => lifted os started H enc)
theorem proved : Rows.ShaWritesSaid := over
#print axioms proved
end Go.Proofs.Ytdhjhcdeeelmhaa.shaWrites
namespace Go.Proofs.Ytdhjhcdeeelmhaa
/-- The row, under a short name, for the claim. -/
theorem shaWrites_holds : Rows.ShaWritesSaid := shaWrites.proved
end Go.Proofs.Ytdhjhcdeeelmhaa
