import Derived.Test.YtilndieajndggaaDoorKeyC
import Derived.Test.YtilndieajndggaaDoorHx0
import Derived.Test.YtilndieajndggaaDoorHx5
import Derived.Test.YtilndieajndggaaDoorHx6
import Derived.Test.YtilndieajndggaaDoorHx7
import Derived.Test.YtilndieajndggaaDoorHx10
import Derived.Test.YtilndieajndggaaDoorHx11
namespace Go.Proofs.YtilndieajndggaaDoor.Pure
open Go.RowKit Go.Proofs.YtilndieajndggaaDoor.Fn Go.Proofs.YtilndieajndggaaDoorW.PrintWords Go.Proofs.YtilndieajndggaaDoorW.PrintLast Go.Proofs.YtilndieajndggaaDoor.U
set_option linter.unusedVariables false
set_option linter.unusedSimpArgs false
theorem refOf_ev (a : Int) (l : List Int) (hb : ∀ x ∈ l, 0 ≤ x ∧ x < 256) (hl : l.length < 140737488355000) : Ev (fun k => q07_Of.f k a l) (keyOf a l) := by
  have hB : ∀ x ∈ (a % 256 :: l), 0 ≤ x ∧ x < 256 := by
    intro x hx
    rcases List.mem_cons.1 hx with rfl | hx
    · omega
    · exact hb x hx
  have hS := refSum_ev (a % 256 :: l) (bytes_Ws hB) (by simp; omega) (check_two _ l (by omega))
  have hT := refText_ev (sumOf (a % 256 :: l)) (by rw [sumOf_length]; decide) (sumOf_range _)
  have hlen : [a % 256].length + l.length < 140737488355328 := by simp; omega
  unfold q07_Of.f keyOf
  generalize sumOf (a % 256 :: l) = s at hS hT
  simp only [Option.bind_some, if_pos hlen, List.singleton_append]
  exact Ev.bind (f := fun k t => (q07_text.f k t).bind fun u => some u) hS (Ev.bind (f := fun _ u => some u) hT (Ev.now _))
def fromOf (l : List Int) : ByteArray × Int := if (l.length : Int) = 32 then (hexOf l, 0) else (⟨#[]⟩, 70)
theorem from_ev (l : List Int) (hb : ∀ x ∈ l, 0 ≤ x ∧ x < 256) (hl : l.length < 1099511627776) : Ev (fun k => key_From.f k l) (fromOf l) := by
  unfold key_From.f fromOf
  by_cases h : (l.length : Int) = 32
  · simp only [if_pos h]
    exact Ev.bind (f := fun _ t => some (t, (0 : Int))) (text_ev l hl hb) (Ev.now _)
  · simp only [if_neg h]
    exact Ev.now _
theorem refFrom_ev (l : List Int) (hb : ∀ x ∈ l, 0 ≤ x ∧ x < 256) (hl : l.length < 1099511627776) : Ev (fun k => q07_From.f k l) (fromOf l) := by
  unfold q07_From.f fromOf
  by_cases h : (l.length : Int) = 32
  · simp only [if_pos h]
    exact Ev.bind (f := fun _ t => some (t, (0 : Int))) (refText_ev l hl hb) (Ev.now _)
  · simp only [if_neg h]
    exact Ev.now _
theorem keyBytes_all (s : ByteArray) : key_Bytes.f s = some (if isKey s then (keyRow s, 0) else ([], 70)) := by
  unfold key_Bytes.f
  cases isKey s <;> rfl
theorem keyCheck_all (s : ByteArray) : key_Check.f s = some (isKey s) := by
  unfold key_Check.f
  rw [keyBytes_all]
  cases isKey s <;> rfl
theorem KeyMakes : l07_KeyMakes.Pure := by
  intro a l s ha hl hs
  apply Ev.rounds
  have hd : Ev (fun k => (l07_heads.f k).bind fun t => some t) true := Ev.bind (f := fun _ t => some t) heads_ev (Ev.now _)
  by_cases h1 : (l.length : Int) > 3000
  · refine Ev.congr (fun k => ?_) hd
    unfold l07_KeyMakes.f
    rw [if_pos h1]
  have hb : ∀ x ∈ l, 0 ≤ x ∧ x < 256 := fun x hx => u8_range (hl.2.2 x hx)
  have k1 := keyOf_ev a l (by omega)
  have k2 := refOf_ev a l hb (by omega)
  have f1 := from_ev l hb (by omega)
  have f2 := refFrom_ev l hb (by omega)
  have b2 := ref07_Bytes_ev s
  have c2 := ref07_Check_ev s
  have b1 := keyBytes_all s
  have c1 := keyCheck_all s
  generalize keyOf a l = K at k1 k2
  generalize fromOf l = R at f1 f2
  generalize (if isKey s then (keyRow s, 0) else ([], 70) : List Int × Int) = B at b1 b2
  have hsame : q02_Same.f B.1 B.1 = some true := by unfold q02_Same.f; rw [beq_self_eq_true]
  unfold l07_KeyMakes.f
  simp only [if_neg h1, b1, c1, Option.bind_some]
  refine Ev.bind b2 ?_
  refine Ev.bind f1 ?_
  refine Ev.bind f2 ?_
  refine Ev.bind k1 ?_
  refine Ev.bind k2 ?_
  simp only [if_true]
  refine Ev.bind c2 ?_
  simp only [beq_self_eq_true, if_true, hsame, Option.bind_some]
  exact hd
end Go.Proofs.YtilndieajndggaaDoor.Pure
