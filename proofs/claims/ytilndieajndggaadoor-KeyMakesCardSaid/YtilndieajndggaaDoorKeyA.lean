import Derived.Test.YtilndieajndggaaDoorShaC
import Derived.Test.YtilndieajndggaaDoorHx0
import Derived.Test.YtilndieajndggaaDoorHx1
import Derived.Test.YtilndieajndggaaDoorHx3
import Derived.Test.YtilndieajndggaaDoorHx4
import Derived.Test.YtilndieajndggaaDoorHx5
import Derived.Test.YtilndieajndggaaDoorHx6
import Derived.Test.YtilndieajndggaaDoorHx10
namespace Go.Proofs.YtilndieajndggaaDoor.Pure
open Go.RowKit Go.Proofs.YtilndieajndggaaDoor.Fn Go.Proofs.YtilndieajndggaaDoorW.PrintWords Go.Proofs.YtilndieajndggaaDoorW.PrintLast Go.Proofs.YtilndieajndggaaDoor.U
set_option linter.unusedVariables false
set_option linter.unusedSimpArgs false
def hexS : ByteArray := ⟨#[48, 49, 50, 51, 52, 53, 54, 55, 56, 57, 97, 98, 99, 100, 101, 102]⟩
def hex2 (x : Int) : List Int := [bt hexS (x / 16), bt hexS (Go.bits .and .u8 x 15)]
theorem low_nib (x : Int) (h0 : 0 ≤ x) (h1 : x < 256) : 0 ≤ Go.bits .and .u8 x 15 ∧ Go.bits .and .u8 x 15 < 16 := by
  obtain ⟨n, rfl⟩ := Int.eq_ofNat_of_zero_le h0
  have hn : n < 256 := by omega
  have : ∀ n : Fin 256, 0 ≤ Go.bits .and .u8 (n.val : Int) 15 ∧ Go.bits .and .u8 (n.val : Int) 15 < 16 := by decide +kernel
  exact this ⟨n, hn⟩
theorem text_loop (l : List Int) (hl : l.length < 1099511627776) (hr : ∀ x ∈ l, 0 ≤ x ∧ x < 256) (d : Nat) : ∀ (i : Nat) (out : List Int), i + d = l.length → out.length = 2 * i →
    Ev (fun k => key_text.l0 k out l (l.length : Int) (i : Int)) (strOfNums (out ++ (l.drop i).flatMap hex2)) := by
  induction d with
  | zero =>
    intro i out hi ho
    obtain rfl : i = l.length := by omega
    refine Ev.step (f := fun _ => some (strOfNums (out ++ (l.drop l.length).flatMap hex2))) (fun k => ?_) (Ev.now _)
    simp only [key_text.l0]
    rw [if_neg (by omega), List.drop_length]
    simp
  | succ d ih =>
    intro i out hi ho
    have hlt : i < l.length := by omega
    have hx := hr (l[i]) (List.getElem_mem hlt)
    have er : rd l (i : Int) = l[i] := by unfold rd; rw [Int.toNat_natCast, List.getD_eq_getElem?_getD, List.getElem?_eq_getElem hlt]; rfl
    have hb := low_nib _ hx.1 hx.2
    have ei : wrap64 ((i : Int) + 1) = ((i + 1 : Nat) : Int) := by rw [w64 (by omega) (by omega)]; omega
    have h16 : 0 ≤ l[i] / 16 ∧ l[i] / 16 < 16 := by omega
    have hstep := ih (i + 1) (out ++ hex2 l[i]) (by omega) (by rw [List.length_append, ho]; simp [hex2]; omega)
    rw [List.append_assoc, show hex2 l[i] ++ (l.drop (i + 1)).flatMap hex2 = (l.drop i).flatMap hex2 from by rw [List.drop_eq_getElem_cons hlt, List.flatMap_cons]] at hstep
    refine Ev.step (fun k => ?_) hstep
    simp only [key_text.l0]
    rw [if_pos (by omega), if_pos (by omega), if_pos (by omega), er, if_pos h16.1, if_pos h16.2, if_pos hb.1, if_pos hb.2, Option.bind_some, if_pos (by rw [ho]; simp; omega), ei]
    rfl
def hexOf (l : List Int) : ByteArray := strOfNums (l.flatMap hex2)
theorem text_ev (l : List Int) (hl : l.length < 1099511627776) (hr : ∀ x ∈ l, 0 ≤ x ∧ x < 256) : Ev (fun k => key_text.f k l) (hexOf l) := by
  have h := text_loop l hl hr l.length 0 [] (by omega) rfl
  refine Ev.congr (fun k => ?_) h
  unfold key_text.f
  rw [w64 (x := 2 * (l.length : Int)) (by omega) (by omega), if_pos (by omega), if_pos (by omega)]
  rfl
theorem write_ini (l : List Int) (hl : l.length < 140737488355328) : sha_Write.f iniV [] 0 l = some ((eatV kWords l.length iniV l).1, (eatV kWords l.length iniV l).2, (l.length : Int)) := by
  have h := write_some (l := l) check_ini (by simpa using hl)
  rw [List.nil_append, wrap_u64 (x := (l.length : Int)) (by omega) (by omega), wrap_u64 (by omega) (by omega), Int.zero_add] at h
  exact h
theorem write_one (x : Int) : sha_Write.f iniV [] 0 [x] = some (iniV, [x], 1) := by
  rw [write_ini [x] (by simp), eatV_stop _ _ _ _ (by simp)]; rfl
theorem check_one (x : Int) : sha_Check.f iniV [x] 1 = some true := by rfl
theorem write_two (x : Int) (l : List Int) (hl : l.length < 140737488355000) : sha_Write.f iniV [x] 1 l = some ((eatV kWords (x :: l).length iniV (x :: l)).1, (eatV kWords (x :: l).length iniV (x :: l)).2, ((x :: l).length : Int)) := by
  have h := write_some (l := l) (check_one x) (by simp; omega)
  rw [List.singleton_append, wrap_u64 (x := (l.length : Int)) (by omega) (by omega), wrap_u64 (by omega) (by omega)] at h
  rw [h]
  simp; omega
theorem check_two (x : Int) (l : List Int) (hl : l.length < 140737488355000) : sha_Check.f (eatV kWords (x :: l).length iniV (x :: l)).1 (eatV kWords (x :: l).length iniV (x :: l)).2 ((x :: l).length : Int) = some true := by
  have h := check_write (l := l) (check_one x) (by decide) (by simp; omega)
  rw [List.singleton_append, wrap_u64 (x := (l.length : Int)) (by omega) (by omega), wrap_u64 (by omega) (by omega)] at h
  rw [show ((x :: l).length : Int) = 1 + (l.length : Int) from by simp; omega]
  exact h
def sumOf (l : List Int) : List Int := doneV (eatV kWords l.length iniV l).1 (eatV kWords l.length iniV l).2 (l.length : Int)
theorem sumOf_range (l : List Int) : ∀ x ∈ sumOf l, 0 ≤ x ∧ x < 256 := outV_range _
theorem eat_length (l : List Int) : (eatV kWords l.length iniV l).1.length = 8 := (eatV_length kWords _ iniV _ (by decide) (Nat.le_refl _)).1
theorem sumOf_length (l : List Int) : (sumOf l).length = 32 := by
  unfold sumOf doneV
  rw [outV_length, (eatV_length kWords _ _ _ (eat_length l) (Nat.le_refl _)).1]
def keyOf (a : Int) (l : List Int) : ByteArray := hexOf (sumOf (a % 256 :: l))
theorem keyOf_ev (a : Int) (l : List Int) (hl : l.length < 140737488355000) : Ev (fun k => key_Of.f k a l) (keyOf a l) := by
  refine Ev.bind new_ev ?_
  refine Ev.congr (f := fun k => (sha_Done.f k (eatV kWords (a % 256 :: l).length iniV (a % 256 :: l)).1 (eatV kWords (a % 256 :: l).length iniV (a % 256 :: l)).2 ((a % 256 :: l).length : Int)).bind fun t170 => ((key_text.f k t170).bind fun t173 => (some t173))) (fun k => ?_) (Ev.bind (shaDone_ev _ _ _ (check_two _ l hl)) (Ev.bind (f := fun _ t => some t) (text_ev (sumOf (a % 256 :: l)) (by rw [sumOf_length]; decide) (sumOf_range _)) (Ev.now _)))
  show (sha_Write.f iniV [] 0 [a % 256]).bind _ = _
  rw [write_one, Option.bind_some]
  dsimp only
  rw [write_two _ l hl, Option.bind_some]
def sum0V : List Int := [110, 52, 11, 156, 255, 179, 122, 152, 156, 165, 68, 230, 187, 120, 10, 44, 120, 144, 29, 63, 179, 55, 56, 118, 133, 17, 163, 6, 23, 175, 160, 29]
set_option maxRecDepth 100000 in
theorem done_0 : doneV iniV [0] 1 = sum0V :=
  Ev.uniq (refDone_ev iniV [0] 1 iniV_Ws (by unfold Ws W32; decide) (check_one 0)) (Ev.of (q04_Done.mono _ _ _) (k := 400) (by decide +kernel))
def key0 : ByteArray := hexOf sum0V
theorem keyOf_0 : keyOf 0 [] = key0 := by
  unfold keyOf sumOf
  rw [eatV_stop _ _ _ _ (by decide)]
  exact congrArg hexOf done_0
set_option maxRecDepth 100000 in
theorem heads_ev : Ev (fun k => l07_heads.f k) true := by
  have h0 := keyOf_ev 0 [] (by decide)
  rw [keyOf_0] at h0
  refine Ev.bind h0 ?_
  refine Ev.of (fun k => ?_) (k := 100) (by decide +kernel)
  repeat' first
    | (with_reducible exact key_Find.mono _ _ _)
    | (with_reducible exact key_From.mono _ _)
    | (with_reducible exact q07_Same.mono _ _ _)
    | (with_reducible exact LeO.refl _)
    | (with_reducible refine LeO.ite ?_ ?_)
    | (with_reducible refine LeO.bind ?_ (fun _ => ?_))
end Go.Proofs.YtilndieajndggaaDoor.Pure
