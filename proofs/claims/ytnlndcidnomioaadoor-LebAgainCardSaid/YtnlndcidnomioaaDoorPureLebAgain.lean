/- LebAgain: a number that is read is written as it was: at every bytes. No condition besides the reader's own bound on lengths. -/
import Derived.Test.YtnlndcidnomioaaDoorLebB
import Derived.Test.YtnlndcidnomioaaDoorHx0
import Derived.Test.YtnlndcidnomioaaDoorHx4
namespace Go.Proofs.YtnlndcidnomioaaDoor.Pure
open Go.RowKit Go.Proofs.YtnlndcidnomioaaDoor.Fn Go.Proofs.YtnlndcidnomioaaDoorW.PrintWords Go.Proofs.YtnlndcidnomioaaDoorW.PrintLast Go.Proofs.YtnlndcidnomioaaDoor.U Go.Proofs.YtnlndcidnomioaaDoor.LebA Go.Proofs.YtnlndcidnomioaaDoor.LebB
theorem LebAgain : palimpsestlaw02_LebAgain.Pure := by
  intro l0 hl
  obtain ⟨b, rfl, hb⟩ := bytes_of hl.2.2
  have hbl : b.length * 1 ≤ 140737488351232 := by have := hl.2.1; rw [ofN_length] at this; exact this
  clear hl
  apply Ev.rounds
  unfold palimpsestlaw02_LebAgain.f
  have g := Get_ev hb
  rcases R_top (l := b.take 10) (by rw [List.length_take]; omega) (fun c h => hb c (List.mem_of_mem_take h)) with ⟨m, x, e, hf, hm, ht, hx⟩ | ⟨e, h, he⟩
  · rw [e] at g
    have g' : Ev (fun k => leb_Get.f k (ofN b)) ((x : Int), (m : Int), (0 : Int)) := g
    refine Ev.bind g' ?_
    have f1 := hf.1
    rw [List.length_take] at hm
    have hsz : sz x = m := (sz_fit hx).unique hf
    have ht' : b.take m = D m x := by
      rw [List.take_take, Nat.min_eq_left (by omega)] at ht
      exact ht
    have key : Ev (fun k => palimpsestlaw02_LebAgain.j0 k (ofN b) (x : Int) (m : Int) false) true := by
      have hp : Ev (fun k => (leb_Put.f k (x : Int)).bind fun t => if 0 ≤ (m : Int) then (if (m : Int) ≤ ((ofN b).length : Int) then ((palimpsestref02_Same.f t ((ofN b).take (m : Int).toNat)).bind fun s => (if s = true then ((palimpsestlaw02_heads.f k).bind fun t => some t) else (some false))) else none) else none) true := by
        refine Ev.bind (put_ev hx) (Ev.congr (fun k => ?_) heads_bind)
        rw [if_pos (by omega), ofN_length, if_pos (by omega), Int.toNat_natCast, ofN_take, ht', hsz, same_self]
        simp
      refine Ev.step (fun k => ?_) hp
      simp only [palimpsestlaw02_LebAgain.j0]
      rw [if_neg (by simp)]
    refine Ev.congr (fun k => ?_) key
    dsimp only
    rw [if_pos rfl, if_neg (by omega), ofN_length, decide_eq_false (by omega)]
  · rw [h] at g
    have g' : Ev (fun k => leb_Get.f k (ofN b)) ((0 : Int), (0 : Int), (e : Int)) := g
    refine Ev.bind g' ?_
    refine Ev.congr (fun k => ?_) heads_bind
    dsimp only
    rw [if_neg (by omega), if_pos rfl, if_pos rfl]
end Go.Proofs.YtnlndcidnomioaaDoor.Pure
