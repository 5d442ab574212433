-- written by a program of this session (hprint.py, over the kit's print) out of the translation
import Derived.Test.YtnlndcidnomioaaDoorRows
import Derived.Test.YtnlndcidnomioaaDoorHx5
import Derived.Test.YtnlndcidnomioaaDoorPureLebBackUpto
import Derived.Test.YtnlndcidnomioaaDoorBulk
import Derived.Deep.DeepHandedRow
import Derived.Test.YtnlndcidnomioaaDoorO
import Derived.WalkKit
import Derived.ProofKit
import Derived.OpenShut
import Derived.ShutString
import Derived.ChangeOld
import Derived.Below
import Derived.SizedLaws
import Derived.Handed
import Derived.SevenTiedAt
import Derived.Test.YtnlndcidnomioaaDoorGL
import Derived.Test.YtnlndcidnomioaaDoorTie
import Derived.Test.YtnlndcidnomioaaDoorCards
namespace Go.Proofs.YtnlndcidnomioaaDoor.lebBackUpto
open Go.ChangeShapes Go.WideShapes Go.ChangeAt Go.RowKit
open Go.ChangeMaps (open_string shut_string)
open Go.Proofs.YtnlndcidnomioaaDoorW.PrintWords Go.Proofs.YtnlndcidnomioaaDoor.Fn
set_option linter.unusedVariables false
theorem own : ownKnob Tryd.prog.godebug = none := by kernel_rfl
theorem laidOut : laidOutB Tryd.prog = true := by kernel_rfl
set_option maxRecDepth 100000 in
theorem contract (H : Type) (enc : TypeId × Value → H) (W : World) (base : Nat) (args : Array Value) (ds gs : List (DataW H)) (before : List MemPlace)
    (hval0 : ∀ (j : Nat) t v, Tryd.f7.params[j]? = some t → args[j]? = some v → Value.okWide Tryd.prog W .any base t v)
    (hW : DataW.Whole enc Tryd.prog Tryd.f7.params.toList Rows.lebBackSpec.vars false W args.toList ds gs before)
    (hsz0 : (DataW.weightsEach Tryd.prog (Tryd.f7.params.toList ++ Rows.lebBackSpec.plain.varTypes Tryd.prog) (ds ++ gs)).all (· ≤ reachBytes) = true) (hL : laidMetH Tryd.prog Fn.laid W) (hk : Rows.uptoSmall H (ds ++ gs) = true) :
    Calls Tryd.prog 7 args W fun e W' => ∃ v, e = .returned v ∧ Rows.lebBackSpec.post enc Tryd.prog Tryd.f7 false true false false W args v W' := by
  have hG := Fn.glob_of_laid hL
  have hsz : (DataW.weightsEach Tryd.prog (Tryd.f7.params.toList ++ Rows.lebBackSpec.plain.varTypes Tryd.prog) (ds ++ gs)).all (· ≤ reachBytes) = true := hsz0
  have hval : ∀ (j : Nat) t v, Tryd.f7.params[j]? = some t → args[j]? = some v → Value.okWide Tryd.prog W .any base t v := hval0
  have hW' := hW
  obtain ⟨p, q, hA0, hV, rfl, hfz, hnd⟩ := hW
  have hA : DataW.TrodAll enc Tryd.prog W 0 (fun _ => true) true Tryd.f7.params.toList args.toList ds p := hA0
  rw [Tryd.params7] at hA hval hsz
  obtain ⟨v0, vs0, d0, ds0, p0, q0, hargs, rfl, rfl, h0, r0⟩ := trodAll_cons hA
  obtain ⟨v1, vs1, d1, ds1, p1, q1, rfl, rfl, rfl, h1, r1⟩ := trodAll_cons r0
  obtain ⟨v2, vs2, d2, ds2, p2, q2, rfl, rfl, rfl, h2, r2⟩ := trodAll_cons r1
  obtain ⟨rfl, rfl, rfl⟩ := trodAll_nil r2
  obtain rfl : args = #[v0, v1, v2] := by cases args; simp_all
  obtain ⟨rfl, rfl⟩ := trodVars_none hV
  obtain ⟨a0, rfl, rfl, rfl, w0⟩ := open_int Tryd.underlying22 (hval 0 22 v0 rfl rfl) h0
  have lt1 : ∀ x ∈ p1, x.block < W.heap.size := by obtain ⟨m, hm⟩ := h1; exact DataW.trod_lt m _ _ _ hm
  obtain ⟨x1, hK1, hO1⟩ := Opens.param (Opens.slice Tryd.underlying24 (by kernel_rfl) (by kernel_rfl) (Opens.int Tryd.underlying5)) hsz (j := 1) (t := 24) rfl rfl h1
  obtain ⟨cs1, hcs1, hK1⟩ : ∃ l_, v1.cells.toList = l_ ∧ Kd.K (Kd.slice 5 (Kd.int .u8)) W x1 l_ := ⟨_, rfl, hK1⟩
  obtain ⟨A1, c1, rfl, hl1, hC1⟩ := hK1
  obtain ⟨a1, len1, cap1, rfl⟩ := okWide_slice Tryd.underlying24 (hval 1 24 v1 rfl rfl)
  obtain ⟨rfl, rfl, rfl⟩ := slice_of hcs1
  have lt2 : ∀ x ∈ p2, x.block < W.heap.size := by obtain ⟨m, hm⟩ := h2; exact DataW.trod_lt m _ _ _ hm
  obtain ⟨x2, hK2, hO2⟩ := Opens.param (Opens.slice Tryd.underlying24 (by kernel_rfl) (by kernel_rfl) (Opens.int Tryd.underlying5)) hsz (j := 2) (t := 24) rfl rfl h2
  obtain ⟨cs2, hcs2, hK2⟩ : ∃ l_, v2.cells.toList = l_ ∧ Kd.K (Kd.slice 5 (Kd.int .u8)) W x2 l_ := ⟨_, rfl, hK2⟩
  obtain ⟨A2, c2, rfl, hl2, hC2⟩ := hK2
  obtain ⟨a2, len2, cap2, rfl⟩ := okWide_slice Tryd.underlying24 (hval 2 24 v2 rfl rfl)
  obtain ⟨rfl, rfl, rfl⟩ := slice_of hcs2
  have hb1 := Bulk.slice_len Tryd.underlying24 h1
  have hb2 := Bulk.slice_len Tryd.underlying24 h2
  have hbulk : x1.length + x2.length ≤ 1048576 := by
    have hk0 : Rows.uptoBulkAll [.lit (.int .u64 a0), d1, d2] ≤ 1048576 := of_decide_eq_true hk
    simp only [Rows.uptoBulkAll] at hk0
    omega
  obtain ⟨k, hp⟩ := Pure.LebBackUpto a0 x1 x2 w0 hO1 hO2 hbulk
  refine (Fn.palimpsestlaw02_LebBack.calls k a0 _ _ x1 _ _ x2 true W hC1 hl1 hC2 hl2 hG hp).mono fun e W' he_ => ?_
  obtain ⟨he, bel0⟩ := he_
  have bel : Below W.heap.size W W' := bel0
  subst he
  exact ⟨_, rfl, _, _, _, [], _, [], hW', trodAll_mk1 (shut_bool Tryd.underlying4 _), (trodAll_cons_mk (shut_int Tryd.underlying22 w0) (trodAll_cons_mk (Below.trod laidOut (by kernel_rfl) (of_decide_eq_true (by kernel_rfl)) h1 bel lt1) (trodAll_cons_mk (Below.trod laidOut (by kernel_rfl) (of_decide_eq_true (by kernel_rfl)) h2 bel lt2) trodAll_mk0))), rfl, bel.frame _, fun h => by cases h⟩
theorem reads (os : Os) {H : Type} (enc : TypeId × Value → H) : ∃ places, DataW.whole enc Tryd.prog ((Fn.laidWorld os).forCall (fun _ _ => 0) ⟨#[], #[.int .u64 0, .slice none 0 0, .slice none 0 0], []⟩).memory Tryd.f7.params.toList Rows.lebBackSpec.vars false (#[.int .u64 0, .slice none 0 0, .slice none 0 0] : Array Value).toList 8 = some ([.lit (.int .u64 0), .nil, .nil], [], places) :=
  ⟨[], by kernel_rfl⟩
set_option maxRecDepth 100000 in
theorem lifted (os : Os) (started : os.Started) (H : Type) (enc : TypeId × Value → H) (F : Stop.Interp) :
    ReturnsInHanded {} Tryd.checked os 7 .any ((Rows.OpenSpec.upto Rows.lebBackSpec).preRow enc Tryd.prog Tryd.f7 Rows.lebBackUptoRow.domain false Rows.lebBackUptoRow.laid) (((Rows.OpenSpec.upto Rows.lebBackSpec).at F).post enc Tryd.prog Tryd.f7 false true false false) := by
  obtain ⟨places, hx⟩ := reads os enc
  refine returnsInHanded_of_row (C := Tryd.checked) (s := Rows.OpenSpec.upto Rows.lebBackSpec) own started (by kernel_rfl) Tryd.func7
    (witness_row_at (enc := enc) (C := Tryd.checked) false (Fn.laidWorld os) #[.int .u64 0, .slice none 0 0, .slice none 0 0] rfl (by kernel_rfl) (by kernel_rfl) (by kernel_rfl)
      (OpenSpec.preRow_of_cond 8 hx (by kernel_rfl) (fun k hk => by cases hk; kernel_rfl) (by kernel_rfl) (Fn.laidWorld_met os _))) ?_
  intro W base args ds gs before hval hW _ hcond hsz0 hL _ _
  exact contract H enc W base args ds gs before hval hW hsz0 hL (hcond _ rfl)
theorem over : Rows.lebBackUptoRow.holds Tryd.pinned (Rows.OpenSpec.upto Rows.lebBackSpec) :=
  OpenClaim.holds_of_cond 7 Tryd.f7 rfl rfl rfl rfl rfl rfl rfl ⟨rfl, rfl, rfl, rfl, rfl⟩ rfl rfl rfl rfl rfl (by kernel_rfl) Tryd.func7 (by kernel_rfl)
    (of_decide_eq_true (by kernel_rfl)) (by unfold Func.isWrapper; first | (rw [if_pos (by decide +kernel)]; kernel_rfl) | (rw [if_neg (by decide +kernel)]; exact ⟨rfl, rfl⟩))
    (fun os started H enc _ F => by rw [OpenClaim.pre_eq_preRow]; exact lifted os started H enc F)
theorem proved : Rows.LebBackUptoCardSaid :=
  Claim7.holds_tied_plain_at .later [] _ _ _ _
    over (fun _ h => by cases h) (by kernel_rfl) (fun _ h => by cases h) lebBackUpto_row_tie rfl ⟨rfl, rfl⟩ (by kernel_rfl) rfl
    (fun f fn hf hfn => by
      obtain rfl : f = 7 := Option.some.inj ((show Tryd.prog.funcNamed "palimpsest/palimpsestlaw02.LebBack" = some 7 by kernel_rfl).symm.trans hf) |>.symm
      obtain rfl : fn = Tryd.f7 := (Option.some.inj (Tryd.func7.symm.trans hfn)).symm
      exact ⟨by kernel_rfl, fun j t ht => by
        rw [Tryd.params7] at ht
        have hm := Array.mem_of_getElem? ht
        have ha : (#[22, 24, 24] : Array TypeId).all (fun t => !Tryd.prog.wantsStandIn t) = true := by kernel_rfl
        have hb := Array.all_eq_true_iff_forall_mem.1 ha t hm
        exact (show Tryd.prog.wantsStandIn t = false by simpa using hb)⟩)
    (by kernel_rfl)
#print axioms proved
end Go.Proofs.YtnlndcidnomioaaDoor.lebBackUpto
namespace Go.Proofs.YtnlndcidnomioaaDoor
/-- The row, under a short name, for the claim. -/
theorem lebBackUpto_holds : Rows.LebBackUptoCardSaid := lebBackUpto.proved
end Go.Proofs.YtnlndcidnomioaaDoor
