import Derived.Test.YtilndieajndggaaDoorKeyA
import Derived.Test.YtilndieajndggaaDoorHx0
import Derived.Test.YtilndieajndggaaDoorHx5
import Derived.Test.YtilndieajndggaaDoorHx10
namespace Go.Proofs.YtilndieajndggaaDoor.Pure
open Go.RowKit Go.Proofs.YtilndieajndggaaDoor.Fn Go.Proofs.YtilndieajndggaaDoorW.PrintWords Go.Proofs.YtilndieajndggaaDoorW.PrintLast Go.Proofs.YtilndieajndggaaDoor.U
set_option linter.unusedVariables false
set_option linter.unusedSimpArgs false
def toU (n : Int) : UInt8 := UInt8.ofNat n.toNat
theorem nib_all : ∀ n : Fin 256, 16 * dg (toU (bt hexS ((n.val : Int) / 16))) + dg (toU (bt hexS (Go.bits .and .u8 (n.val : Int) 15))) = (n.val : Int) ∧ digs.contains (toU (bt hexS ((n.val : Int) / 16))) = true ∧ digs.contains (toU (bt hexS (Go.bits .and .u8 (n.val : Int) 15))) = true := by decide +kernel
theorem nib (x : Int) (h0 : 0 ≤ x) (h1 : x < 256) : 16 * dg (toU (bt hexS (x / 16))) + dg (toU (bt hexS (Go.bits .and .u8 x 15))) = x ∧ digs.contains (toU (bt hexS (x / 16))) = true ∧ digs.contains (toU (bt hexS (Go.bits .and .u8 x 15))) = true := by
  obtain ⟨n, rfl⟩ := Int.eq_ofNat_of_zero_le h0
  exact nib_all ⟨n, by omega⟩
def hexL (s : List Int) : List UInt8 := (s.flatMap hex2).map toU
theorem hexL_cons (x : Int) (s : List Int) : hexL (x :: s) = toU (bt hexS (x / 16)) :: toU (bt hexS (Go.bits .and .u8 x 15)) :: hexL s := rfl
theorem hexOf_list (s : List Int) : (hexOf s).data.toList = hexL s := by
  unfold hexOf strOfNums hexL
  rfl
theorem hexL_length : ∀ s : List Int, (hexL s).length = 2 * s.length
  | [] => rfl
  | x :: s => by rw [hexL_cons, List.length_cons, List.length_cons, hexL_length s, List.length_cons]; omega
theorem hexL_digs : ∀ s : List Int, (∀ x ∈ s, 0 ≤ x ∧ x < 256) → (hexL s).all (digs.contains ·) = true
  | [], _ => rfl
  | x :: s, h => by
    have hx := nib x (h x List.mem_cons_self).1 (h x List.mem_cons_self).2
    rw [hexL_cons, List.all_cons, List.all_cons, hx.2.1, hx.2.2, hexL_digs s (fun y hy => h y (List.mem_cons_of_mem _ hy))]
    rfl
theorem hexL_pair : ∀ (s : List Int), (∀ x ∈ s, 0 ≤ x ∧ x < 256) → ∀ (i : Nat) (hi : i < s.length), 16 * dg ((hexL s).getD (2 * i) 0) + dg ((hexL s).getD (2 * i + 1) 0) = s[i]
  | x :: s, h, 0, _ => (nib x (h x List.mem_cons_self).1 (h x List.mem_cons_self).2).1
  | x :: s, h, i + 1, hi => by
    have ih := hexL_pair s (fun y hy => h y (List.mem_cons_of_mem _ hy)) i (by simpa using hi)
    rw [hexL_cons, show 2 * (i + 1) = 2 * i + 1 + 1 from by omega, List.getD_cons_succ, List.getD_cons_succ, List.getD_cons_succ, List.getD_cons_succ, List.getElem_cons_succ]
    exact ih
theorem isKey_hex (s : List Int) (h : ∀ x ∈ s, 0 ≤ x ∧ x < 256) (hl : s.length = 32) : isKey (hexOf s) = true := by
  have e : (hexOf s).size = 64 := by
    have := hexL_length s
    rw [← hexOf_list, Array.length_toList] at this
    exact this.trans (by omega)
  unfold isKey
  rw [hexOf_list, hexL_digs s h, decide_eq_true e]
  rfl
theorem keyRow_hex (s : List Int) (h : ∀ x ∈ s, 0 ≤ x ∧ x < 256) (hl : s.length = 32) : keyRow (hexOf s) = s := by
  unfold keyRow keyAt
  rw [hexOf_list]
  apply List.ext_getElem
  · simp [hl]
  · intro i h1 h2
    have hi : i < 32 := by omega
    rw [List.getElem_map, List.getElem_range, if_pos (by omega), if_pos (by omega)]
    exact hexL_pair s h i h2
theorem keyBytes_hex (s : List Int) (h : ∀ x ∈ s, 0 ≤ x ∧ x < 256) (hl : s.length = 32) : key_Bytes.f (hexOf s) = some (s, 0) := by
  unfold key_Bytes.f
  rw [isKey_hex s h hl, if_pos rfl, keyRow_hex s h hl]
theorem bytes_Ws {l : List Int} (h : ∀ x ∈ l, 0 ≤ x ∧ x < 256) : Ws l := fun x hx => ⟨(h x hx).1, by have := (h x hx).2; omega⟩
theorem refSum_ev (l : List Int) (hW : Ws l) (hl : l.length < 140737488355328) (hc : sha_Check.f (eatV kWords l.length iniV l).1 (eatV kWords l.length iniV l).2 (l.length : Int) = some true) : Ev (fun k => q04_Sum.f k l) (sumOf l) := by
  have hw := refWrite_ev iniV [] l 0 iniV_Ws (fun x hx => by simp at hx) hW (write_ini l hl)
  obtain ⟨w1, w2⟩ := eatV_Ws kWords l.length iniV l iniV_Ws hW
  exact Ev.bind (f := fun k (bt : List Int × List Int × Int) => (q04_Done.f k bt.1 bt.2.1 bt.2.2).bind fun t => some t) hw (Ev.bind (f := fun _ t => some t) (refDone_ev _ _ _ w1 w2 hc) (Ev.now _))
end Go.Proofs.YtilndieajndggaaDoor.Pure
