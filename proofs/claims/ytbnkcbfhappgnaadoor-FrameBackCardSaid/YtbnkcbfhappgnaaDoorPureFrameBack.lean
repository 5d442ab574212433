import Derived.Test.YtbnkcbfhappgnaaDoorFrM
import Derived.Test.YtbnkcbfhappgnaaDoorHx0
import Derived.Test.YtbnkcbfhappgnaaDoorHx12
import Derived.Test.YtbnkcbfhappgnaaDoorHx13
import Derived.Test.YtbnkcbfhappgnaaDoorHx15
import Derived.Test.YtbnkcbfhappgnaaDoorHx17
import Derived.Test.YtbnkcbfhappgnaaDoorHx18
namespace Go.Proofs.YtbnkcbfhappgnaaDoor.Pure
open Go.RowKit Go.Proofs.YtbnkcbfhappgnaaDoor.Fn Go.Proofs.YtbnkcbfhappgnaaDoorW.PrintWords Go.Proofs.YtbnkcbfhappgnaaDoorW.PrintLast Go.Proofs.YtbnkcbfhappgnaaDoor.U
set_option linter.unusedVariables false
set_option linter.unusedSimpArgs false
def allV (kn : Nat) (cs : List (List Nat)) : List Nat := (cs.map (rec kn)).flatten
def rowV (kn : Nat) (d : List Nat) : S29 := ⟨(kn : Int), keyOf (kn : Int) (ofN d), ofN d⟩
def E12 (kn : Nat) (cs : List (List Nat)) (i : Nat) : Nat := (allV kn (cs.take i)).length
theorem allV_split (kn : Nat) (cs : List (List Nat)) (i : Nat) : allV kn cs = allV kn (cs.take i) ++ allV kn (cs.drop i) := by
  unfold allV
  rw [← List.flatten_append, ← List.map_append, List.take_append_drop]
theorem allV_succ (kn : Nat) (cs : List (List Nat)) (i : Nat) (h : i < cs.length) : allV kn (cs.take (i + 1)) = allV kn (cs.take i) ++ rec kn cs[i] := by
  unfold allV
  rw [List.take_succ_eq_append_getElem h, List.map_append, List.flatten_append]
  simp
theorem E12_succ (kn : Nat) (cs : List (List Nat)) (i : Nat) (h : i < cs.length) : E12 kn cs (i + 1) = E12 kn cs i + (rec kn cs[i]).length := by
  unfold E12
  rw [allV_succ kn cs i h, List.length_append]
theorem E12_zero (kn : Nat) (cs : List (List Nat)) : E12 kn cs 0 = 0 := by unfold E12; rw [List.take_zero]; rfl
theorem E12_take (kn : Nat) (cs : List (List Nat)) (w i : Nat) (h : i ≤ w) : E12 kn (cs.take w) i = E12 kn cs i := by
  unfold E12
  rw [List.take_take, Nat.min_eq_left h]
theorem E12_le (kn : Nat) (cs : List (List Nat)) (h3 : ∀ d ∈ cs, d.length ≤ 300) : ∀ i, i ≤ cs.length → E12 kn cs i ≤ 316 * i := by
  intro i
  induction i with
  | zero => intro _; exact Nat.le_refl 0
  | succ i ih =>
    intro hi
    have h := h3 cs[i] (List.getElem_mem (by omega))
    have hs := sz_small (x := cs[i].length) (by omega)
    rw [E12_succ kn cs i (by omega), rec_length]
    have := ih (by omega)
    omega
theorem chain_recs (kn : Nat) (h1 : 1 ≤ kn) (h4 : kn ≤ 4) (cs : List (List Nat)) (T : List Nat) (hT : (nextV T).2.2.2.2 ≠ 0) (h8 : ∀ d ∈ cs, d.length ≤ 8192) (c : Nat) :
    ∀ i : Nat, i + c = cs.length → Chain (allV kn cs ++ T) (E12 kn cs i) ((cs.drop i).map (rowV kn)) ((List.range' i c).map fun j => (E12 kn cs j : Int)) (E12 kn cs cs.length) := by
  have hdrop : ∀ i, (allV kn cs ++ T).drop (E12 kn cs i) = allV kn (cs.drop i) ++ T := by
    intro i
    rw [allV_split kn cs i, List.append_assoc]
    exact List.drop_left' rfl
  induction c with
  | zero =>
    intro i hi
    obtain rfl : i = cs.length := by omega
    rw [List.drop_length]
    refine Chain.stop _ ?_
    rw [hdrop, List.drop_length]
    exact hT
  | succ c ih =>
    intro i hi
    have hlt : i < cs.length := by omega
    have hle := h8 cs[i] (List.getElem_mem hlt)
    rw [List.drop_eq_getElem_cons hlt, List.map_cons, List.range'_succ, List.map_cons]
    have hn : nextV ((allV kn cs ++ T).drop (E12 kn cs i)) = ((kn : Int), keyOf (kn : Int) (ofN cs[i]), ofN cs[i], ((rec kn cs[i]).length : Int), 0) := by
      rw [hdrop, List.drop_eq_getElem_cons hlt]
      show nextV ((rec kn cs[i] ++ allV kn (cs.drop (i + 1))) ++ T) = _
      rw [List.append_assoc]
      exact next_rec kn h1 h4 cs[i] _ hle
    have hE := E12_succ kn cs i hlt
    refine Chain.more (E12 kn cs i) (rec kn cs[i]).length _ _ _ _ _ _ hn ?_ ?_
    · rw [List.length_append, allV_split kn cs (i + 1), List.length_append, ← hE]
      unfold E12
      omega
    · rw [← hE]
      exact ih (i + 1) (by omega)
theorem next_cut (kn : Nat) (h1 : 1 ≤ kn) (h4 : kn ≤ 4) (d : List Nat) (hl : d.length ≤ 8192) (j : Nat) (hj : j < (rec kn d).length) : (nextV ((rec kn d).take j)).2.2.2.2 ≠ 0 := by
  have h20 : (noV 20).2.2.2.2 ≠ 0 := by decide
  have hlen := rec_length kn d
  have hs := sz_small hl
  have hs1 := sz_pos d.length
  obtain ⟨c, hc, hf⟩ := rec_form kn d
  have hfit := LebA.sz_fit (x := d.length) (by omega)
  have hDl := LebA.D_length (LebA.sz d.length) d.length
  have hjl : ((rec kn d).take j).length = j := by rw [List.length_take]; omega
  by_cases j0 : j = 0
  · subst j0
    rw [List.take_zero]
    exact h20
  by_cases j1 : j = 1
  · subst j1
    rw [hf, List.take_succ_cons, List.take_zero]
    exact h20
  obtain ⟨j2, rfl⟩ : ∃ j2, j = j2 + 2 := ⟨j - 2, by omega⟩
  have hform : (rec kn d).take (j2 + 2) = 165 :: kn :: (LebA.D (LebA.sz d.length) d.length ++ (d ++ c)).take j2 := by rw [hf, List.take_succ_cons, List.take_succ_cons]
  have g0 : ((rec kn d).take (j2 + 2)).getD 0 0 = 165 := by rw [hform]; rfl
  have g1 : ((rec kn d).take (j2 + 2)).getD 1 0 = kn := by rw [hform]; rfl
  have gd : ((rec kn d).take (j2 + 2)).drop 2 = (LebA.D (LebA.sz d.length) d.length ++ (d ++ c)).take j2 := by rw [hform]; rfl
  unfold nextV
  rw [if_neg (by omega), if_pos g0, if_neg (by omega), g1, if_pos ⟨h1, h4⟩, gd]
  by_cases hm : j2 < LebA.sz d.length
  · have hR : R0 ((LebA.D (LebA.sz d.length) d.length ++ (d ++ c)).take j2) = (0, 0, 20) := by
      show LebA.R (((LebA.D (LebA.sz d.length) d.length ++ (d ++ c)).take j2).take 10) 0 0 = _
      rw [List.take_of_length_le (show ((LebA.D (LebA.sz d.length) d.length ++ (d ++ c)).take j2).length ≤ 10 by rw [List.length_take]; omega), List.take_append_of_le_length (by rw [hDl]; omega)]
      exact LebA.R_cut (LebA.sz d.length) d.length 0 0 j2 hm (by omega)
    rw [hR]
    exact h20
  · have hR : R0 ((LebA.D (LebA.sz d.length) d.length ++ (d ++ c)).take j2) = (d.length, LebA.sz d.length, 0) := by
      show LebA.R (((LebA.D (LebA.sz d.length) d.length ++ (d ++ c)).take j2).take 10) 0 0 = _
      rw [List.take_append, hDl, List.take_of_length_le (show (LebA.D (LebA.sz d.length) d.length).length ≤ j2 by rw [hDl]; omega), List.take_append, hDl, List.take_of_length_le (show (LebA.D (LebA.sz d.length) d.length).length ≤ 10 by rw [hDl]; omega)]
      have := LebA.R_D (LebA.sz d.length) d.length 0 0 (((d ++ c).take (j2 - LebA.sz d.length)).take (10 - LebA.sz d.length)) hfit (fun _ => .inl rfl) (by omega) (by omega)
      rw [this]
      simp
    rw [hR]
    unfold nextR
    dsimp only
    rw [if_neg (by decide), if_pos rfl, if_neg (by omega), if_pos (by rw [hjl]; omega)]
    exact h20
theorem same12_ev (rs : List (S29)) (hl : rs.length ≤ 1000000) : Ev (fun k => q12_Same.f k rs rs) true := by
  refine Ev.congr (fun k => ?_) (same_loop rs (fun k i => q12_Same.l0 k rs rs (i : Int)) (fun k i h => ?_) (fun k => ?_) rs.length 0 (by omega))
  · unfold q12_Same.f
    rw [if_pos rfl]; rfl
  · have hs : ∀ x : List Int, q02_Same.f x x = some true := fun x => by unfold q02_Same.f; simp
    simp only [q12_Same.l0, hs]
    rw [if_pos (by omega), if_pos (by omega), if_pos (by omega), wi i rs.length h (by omega)]
    simp
  · simp only [q12_Same.l0]
    rw [if_neg (by omega)]
section
variable (kn : Nat) (h1 : 1 ≤ kn) (h4 : kn ≤ 4) (ds : List (List Nat)) (hd : ∀ d ∈ ds, ∀ x ∈ d, x < 256) (hn : ds.length ≤ 20)
abbrev ends (kn : Nat) (ds : List (List Nat)) (i : Nat) : List Int := (List.range (i + 1)).map fun j => (E12 kn ds j : Int)
theorem ends_at (i j : Nat) (h : j ≤ i) : rd (ends kn ds i) (j : Int) = (E12 kn ds j : Int) := by
  unfold rd ends
  rw [Int.toNat_natCast, List.getD_eq_getElem?_getD, List.getElem?_map, List.getElem?_range (by omega)]
  rfl
theorem allV_lt (cs : List (List Nat)) (hk : kn < 256) (hc : ∀ d ∈ cs, (∀ x ∈ d, x < 256) ∧ d.length ≤ 300) : ∀ x ∈ allV kn cs, x < 256 := by
  intro x hx
  unfold allV at hx
  obtain ⟨y, hy, hxy⟩ := List.mem_flatten.1 hx
  obtain ⟨d, hd, rfl⟩ := List.mem_map.1 hy
  have := hc d hd
  exact rec_lt hk this.1 (by omega) x hxy
include h1 h4 hd hn in
theorem scan_cut (h3 : ∀ d ∈ ds, d.length ≤ 300) (w : Nat) (hw : w ≤ ds.length) (T : List Nat) (hTb : ∀ x ∈ T, x < 256) (hTl : T.length ≤ 10000) (hT : (nextV T).2.2.2.2 ≠ 0) :
    Ev (fun k => frame_Scan.f k (ofN (allV kn (ds.take w) ++ T))) ((ds.take w).map (rowV kn), (List.range w).map (fun j => (E12 kn ds j : Int)), (E12 kn ds w : Int)) := by
  have hcl : (ds.take w).length = w := by rw [List.length_take]; omega
  have hsub : ∀ d ∈ ds.take w, (∀ x ∈ d, x < 256) ∧ d.length ≤ 300 := fun d h => ⟨hd d (List.mem_of_mem_take h), h3 d (List.mem_of_mem_take h)⟩
  have ch := chain_recs kn h1 h4 (ds.take w) T hT (fun d h => by have := (hsub d h).2; omega) w 0 (by omega)
  rw [E12_zero, List.drop_zero, hcl, E12_take kn ds w w (Nat.le_refl _)] at ch
  have hplace : ((List.range' 0 w).map fun j => (E12 kn (ds.take w) j : Int)) = (List.range w).map (fun j => (E12 kn ds j : Int)) := by
    rw [← List.range_eq_range']
    refine List.map_congr_left (fun j hj => ?_)
    have := List.mem_range.1 hj
    rw [E12_take kn ds w j (by omega)]
  rw [hplace] at ch
  have hEl := E12_le kn ds h3 w hw
  have hlen : (allV kn (ds.take w)).length = E12 kn ds w := rfl
  refine scan_ev _ (fun x hx => ?_) (by rw [List.length_append, hlen]; omega) ch (by rw [List.length_map, hcl]; omega) (by rw [List.length_map, List.length_range]; omega)
  rcases List.mem_append.1 hx with h | h
  · exact allV_lt kn (ds.take w) (by omega) hsub x h
  · exact hTb x h
include h1 h4 hd hn in
theorem back_cut (h3 : ∀ d ∈ ds, d.length ≤ 300) (cut : Nat) (hcut : cut ≤ (allV kn ds).length) (c : Nat) :
    ∀ w : Nat, w + c = ds.length → E12 kn ds w ≤ cut → Ev (fun k => l12_FrameBack.l1 k (cut : Int) (ofN (allV kn ds)) (ds.map (rowV kn)) (ends kn ds ds.length) (w : Int)) true := by
  have hall : E12 kn ds ds.length = (allV kn ds).length := by unfold E12; rw [List.take_length]
  have hEl := E12_le kn ds h3 ds.length (Nat.le_refl _)
  have halt_ : ∀ (w : Nat) (T : List Nat), w ≤ ds.length → (allV kn ds).take cut = allV kn (ds.take w) ++ T → (∀ x ∈ T, x < 256) → T.length ≤ 10000 → (nextV T).2.2.2.2 ≠ 0 →
      Ev (fun k => if 0 ≤ (cut : Int) then (if (cut : Int) ≤ ((ofN (allV kn ds)).length : Int) then ((frame_Scan.f k ((ofN (allV kn ds)).take ((cut : Int) : Int).toNat)).bind fun bt572 => (if 0 ≤ (w : Int) then (if (w : Int) ≤ ((ds.map (rowV kn)).length : Int) then ((q12_Same.f k bt572.1 ((ds.map (rowV kn)).take ((w : Int) : Int).toNat)).bind fun t584 => (if t584 = true then (if (w : Int) < ((ends kn ds ds.length).length : Int) then (if bt572.2.2 = (rd (ends kn ds ds.length) (w : Int)) then ((l12_heads.f k).bind fun t586 => (some t586)) else (some false)) else (none)) else (some false))) else (none)) else (none))) else (none)) else (none)) true := by
    intro w T hw hTe hTb hTl hT
    have sc := scan_cut kn h1 h4 ds hd hn h3 w hw T hTb hTl hT
    simp only [if_pos (show (0 : Int) ≤ (cut : Int) by omega), if_pos (show (cut : Int) ≤ ((ofN (allV kn ds)).length : Int) by rw [ofN_length]; omega), Int.toNat_natCast, ofN_take, hTe]
    refine Ev.bind sc ?_
    simp only [if_pos (show (0 : Int) ≤ (w : Int) by omega), if_pos (show (w : Int) ≤ ((ds.map (rowV kn)).length : Int) by rw [List.length_map]; omega)]
    rw [← List.map_take]
    refine Ev.bind (same12_ev _ (by rw [List.length_map, List.length_take]; omega)) ?_
    simp only [if_true, if_pos (show (w : Int) < ((ends kn ds ds.length).length : Int) by rw [List.length_map, List.length_range]; omega), ends_at kn ds ds.length w hw]
    exact heads_bind
  induction c with
  | zero =>
    intro w hw hle
    obtain rfl : w = ds.length := by omega
    refine Ev.step (fun k => ?_) (halt_ ds.length [] (Nat.le_refl _) (by rw [List.append_nil, List.take_length, List.take_of_length_le (by omega)]) (fun x hx => by cases hx) (by decide) (by decide))
    simp only [l12_FrameBack.l1]
    rw [wi ds.length 21 (by omega) (by omega), if_neg (by rw [List.length_map, List.length_range]; omega)]
  | succ c ih =>
    intro w hw hle
    have hlt : w < ds.length := by omega
    have hE := E12_succ kn ds w hlt
    have hr : rd (ends kn ds ds.length) ((w + 1 : Nat) : Int) = (E12 kn ds (w + 1) : Int) := ends_at kn ds ds.length (w + 1) (by omega)
    by_cases hnext : E12 kn ds (w + 1) ≤ cut
    · refine Ev.step (fun k => ?_) (ih (w + 1) (by omega) hnext)
      simp only [l12_FrameBack.l1]
      rw [wi w 21 (by omega) (by omega), if_pos (by rw [List.length_map, List.length_range]; omega), if_pos (by omega), hr, if_pos (by omega)]
    · have hdl := h3 ds[w] (List.getElem_mem hlt)
      have hrl := rec_length kn ds[w]
      have hs := sz_small (x := ds[w].length) (by omega)
      have hT : (allV kn ds).take cut = allV kn (ds.take w) ++ (rec kn ds[w]).take (cut - E12 kn ds w) := by
        have hsp : allV kn ds = allV kn (ds.take w) ++ (rec kn ds[w] ++ allV kn (ds.drop (w + 1))) := by
          rw [allV_split kn ds w, List.drop_eq_getElem_cons hlt]
          rfl
        have hl0 : (allV kn (ds.take w)).length = E12 kn ds w := rfl
        rw [hsp, List.take_append, hl0, List.take_of_length_le (by rw [hl0]; exact hle), List.take_append_of_le_length (by omega)]
      refine Ev.step (fun k => ?_) (halt_ w _ (by omega) hT (fun x hx => rec_lt (by omega) (hd ds[w] (List.getElem_mem hlt)) (by omega) x (List.mem_of_mem_take hx)) (by rw [List.length_take]; omega) (next_cut kn h1 h4 ds[w] (by omega) _ (by omega)))
      simp only [l12_FrameBack.l1]
      rw [wi w 21 (by omega) (by omega), if_pos (by rw [List.length_map, List.length_range]; omega), if_pos (by omega), hr, if_neg (by omega)]
include h1 h4 hd hn in
theorem back_end (cut : Int) (h3 : ∀ d ∈ ds, d.length ≤ 300) (l0 : List (List Int)) (hl0 : l0.length = ds.length) : Ev (fun k => l12_FrameBack.l0 k l0 (kn : Int) cut (ofN (allV kn ds)) (ds.map (rowV kn)) (ends kn ds ds.length) (ds.length : Int)) true := by
  have hall : E12 kn ds ds.length = (allV kn ds).length := by unfold E12; rw [List.take_length]
  have hEl := E12_le kn ds h3 ds.length (Nat.le_refl _)
  have sc := scan_cut kn h1 h4 ds hd hn h3 ds.length (Nat.le_refl _) [] (fun x hx => by cases hx) (by decide) (by decide)
  rw [List.append_nil, List.take_length] at sc
  have htk : (ends kn ds ds.length).take ds.length = (List.range ds.length).map (fun j => (E12 kn ds j : Int)) := by
    unfold ends
    rw [← List.map_take, List.range_succ, List.take_left' (by rw [List.length_range])]
  refine Ev.step (f := fun k => (frame_Scan.f k (ofN (allV kn ds))).bind fun bt551 => ((q12_Same.f k bt551.1 (ds.map (rowV kn))).bind fun t558 => (if t558 = true then (if 0 ≤ (l0.length : Int) then (if (l0.length : Int) ≤ ((ends kn ds ds.length).length : Int) then ((q06_Ints.f k bt551.2.1 ((ends kn ds ds.length).take ((l0.length : Int) : Int).toNat)).bind fun t564 => (if t564 = true then (l12_FrameBack.j2 k cut (ofN (allV kn ds)) (ds.map (rowV kn)) (ends kn ds ds.length) (bt551.2.2 != ((ofN (allV kn ds)).length : Int))) else (l12_FrameBack.j2 k cut (ofN (allV kn ds)) (ds.map (rowV kn)) (ends kn ds ds.length) true))) else (none)) else (none)) else (l12_FrameBack.j2 k cut (ofN (allV kn ds)) (ds.map (rowV kn)) (ends kn ds ds.length) true)))) (fun k => ?_) (Ev.bind sc ?_)
  · simp only [l12_FrameBack.l0]
    rw [if_neg (by omega)]
  refine Ev.bind (same12_ev _ (by rw [List.length_map]; omega)) ?_
  simp only [if_true, hl0, if_pos (show (0 : Int) ≤ (ds.length : Int) by omega), if_pos (show (ds.length : Int) ≤ ((ends kn ds ds.length).length : Int) by rw [List.length_map, List.length_range]; omega), Int.toNat_natCast, htk]
  refine Ev.bind (ref06_Ints_ev _ (by rw [List.length_map, List.length_range]; omega)) ?_
  simp only [if_true]
  rw [show ((E12 kn ds ds.length : Int) != ((ofN (allV kn ds)).length : Int)) = false from bne_eq_false_iff_eq.2 (by rw [ofN_length, hall])]
  have hj3 : ∀ b : Bool, b = true → Ev (fun k => l12_FrameBack.j3 k cut (ofN (allV kn ds)) (ds.map (rowV kn)) (ends kn ds ds.length) b) true := by
    rintro b rfl
    refine Ev.step (fun k => ?_) heads_bind
    simp only [l12_FrameBack.j3, if_true]
  by_cases hc0 : cut < 0
  · refine Ev.step (fun k => ?_) (hj3 true rfl)
    simp only [l12_FrameBack.j2]
    rw [if_neg (by decide), if_pos hc0]
  · by_cases hc1 : cut > ((ofN (allV kn ds)).length : Int)
    · refine Ev.step (fun k => ?_) (hj3 (decide (cut > ((ofN (allV kn ds)).length : Int))) (decide_eq_true hc1))
      simp only [l12_FrameBack.j2]
      rw [if_neg (by decide), if_neg hc0]
    · obtain ⟨c, rfl⟩ := Int.eq_ofNat_of_zero_le (show 0 ≤ cut by omega)
      have hb := back_cut kn h1 h4 ds hd hn h3 c (by rw [ofN_length] at hc1; omega) ds.length 0 (by omega) (by rw [E12_zero]; omega)
      refine Ev.step (f := fun k => l12_FrameBack.j3 k (c : Int) (ofN (allV kn ds)) (ds.map (rowV kn)) (ends kn ds ds.length) false) (fun k => ?_) (Ev.step (fun k => ?_) hb)
      · simp only [l12_FrameBack.j2]
        rw [if_neg (by decide), if_neg hc0, decide_eq_false hc1]
      · simp only [l12_FrameBack.j3]
        rw [if_neg (by decide)]
        all_goals rfl
include h1 h4 hd hn in
theorem back_loop (cut : Int) (c : Nat) : ∀ i : Nat, i + c = ds.length → (∀ d ∈ ds.take i, d.length ≤ 300) →
    Ev (fun k => l12_FrameBack.l0 k (ds.map ofN) (kn : Int) cut (ofN (allV kn (ds.take i))) ((ds.take i).map (rowV kn)) (ends kn ds i) (i : Int)) true := by
  induction c with
  | zero =>
    intro i hi h3
    obtain rfl : i = ds.length := by omega
    rw [List.take_length] at h3 ⊢
    exact back_end kn h1 h4 ds hd hn cut h3 (ds.map ofN) (by rw [List.length_map])
  | succ c ih =>
    intro i hi h3
    have hlt : i < ds.length := by omega
    have er : rd_L2 (ds.map ofN) (i : Int) = ofN ds[i] := by
      unfold rd_L2
      rw [Int.toNat_natCast, List.getD_eq_getElem?_getD, List.getElem?_map, List.getElem?_eq_getElem hlt]; rfl
    have hlen : ((ds.map ofN).length : Int) = (ds.length : Int) := by rw [List.length_map]
    by_cases h300 : ds[i].length ≤ 300
    · have hdi := hd ds[i] (List.getElem_mem hlt)
      have m := made_ev (kn : Int) ds[i] hdi (by omega)
      have p := framePut_ev (kn : Int) (keyOf (kn : Int) (ofN ds[i])) ds[i] hdi (by omega)
      rw [show putV (kn : Int) (keyOf (kn : Int) (ofN ds[i])) ds[i] = (ofN (rec kn ds[i]), 0) from if_pos ⟨by omega, by omega, by omega, rfl⟩] at p
      have hs := sz_small (x := ds[i].length) (by omega)
      have hrl := rec_length kn ds[i]
      have hsz : sizeV ((ofN ds[i]).length : Int) = ((ofN (rec kn ds[i])).length : Int) := by
        unfold sizeV
        rw [ofN_length, ofN_length, if_neg (by omega), Int.toNat_natCast, hrl]; omega
      have htake : ds.take (i + 1) = ds.take i ++ [ds[i]] := List.take_succ_eq_append_getElem hlt
      have h3' : ∀ d ∈ ds.take (i + 1), d.length ≤ 300 := by
        intro d hdm
        rw [htake] at hdm
        rcases List.mem_append.1 hdm with h | h
        · exact h3 d h
        · rw [List.mem_singleton.1 h]; exact h300
      have hEi : E12 kn ds i ≤ 316 * i := by
        have := E12_le kn (ds.take i) h3 i (by rw [List.length_take]; omega)
        rwa [E12_take kn ds i i (Nat.le_refl _)] at this
      have hall : (allV kn (ds.take i)).length = E12 kn ds i := rfl
      have key := ih (i + 1) (by omega) h3'
      have ea : ofN (allV kn (ds.take (i + 1))) = ofN (allV kn (ds.take i)) ++ ofN (rec kn ds[i]) := by rw [allV_succ kn ds i hlt, ofN_append]
      have eb : (ds.take (i + 1)).map (rowV kn) = (ds.take i).map (rowV kn) ++ [(⟨(kn : Int), keyOf (kn : Int) (ofN ds[i]), ofN ds[i]⟩ : S29)] := by rw [htake, List.map_append]; rfl
      have ec : ends kn ds (i + 1) = ends kn ds i ++ [((ofN (allV kn (ds.take i)) ++ ofN (rec kn ds[i])).length : Int)] := by
        unfold ends
        rw [List.range_succ, List.map_append, ← ea, ofN_length]
        rfl
      rw [ea, eb, ec] at key
      have l1 : ((ds.take i).map (rowV kn)).length < 2932031007402 := by rw [List.length_map, List.length_take]; omega
      have l2 : (ofN (allV kn (ds.take i))).length + (ofN (rec kn ds[i])).length < 140737488355328 := by rw [ofN_length, ofN_length, hall, hrl]; omega
      have l3 : (ends kn ds i).length < 17592186044416 := by rw [List.length_map, List.length_range]; omega
      refine Ev.step (f := fun k => (l12_made.f k (kn : Int) (ofN ds[i])).bind fun bt525 => ((frame_Put.f k bt525.1 bt525.2.1 bt525.2.2).bind fun bt530 => (if bt530.2 = 0 then ((frame_Size.f ((ofN ds[i]).length : Int)).bind fun t535 => (if (bt530.1.length : Int) = t535 then ((l12_made.f k (kn : Int) (ofN ds[i])).bind fun bt537 => (if ((ds.take i).map (rowV kn)).length < 2932031007402 then (if (ofN (allV kn (ds.take i))).length + bt530.1.length < 140737488355328 then ((some (ofN (allV kn (ds.take i)) ++ bt530.1 : List Int)).bind fun y545 => (if (ends kn ds i).length < 17592186044416 then (l12_FrameBack.l0 k (ds.map ofN) (kn : Int) cut y545 ((ds.take i).map (rowV kn) ++ [(⟨bt537.1, bt537.2.1, bt537.2.2⟩ : S29)]) (ends kn ds i ++ [(y545.length : Int)]) ((i + 1 : Nat) : Int)) else (none))) else (none)) else (none))) else (some false))) else (some false)))) (fun k => ?_) (Ev.bind m (Ev.bind p ?_))
      · simp only [l12_FrameBack.l0]
        rw [hlen, if_pos (by omega), if_pos (by omega), er, if_neg (by rw [ofN_length]; omega), wi i ds.length hlt (by omega)]
      · simp only [if_true, size_ev, Option.bind_some, hsz]
        refine Ev.bind m ?_
        simp only [if_pos l1, if_pos l2, if_pos l3, Option.bind_some]
        exact key
    · refine Ev.step (fun k => ?_) heads_bind
      simp only [l12_FrameBack.l0]
      rw [hlen, if_pos (by omega), if_pos (by omega), er, if_pos (by rw [ofN_length]; omega)]
end
theorem FrameBack : l12_FrameBack.Pure := by
  intro l0 a cut hl0 ha hc
  apply Ev.rounds
  have hds : ∃ ds : List (List Nat), l0 = ds.map ofN ∧ ∀ d ∈ ds, ∀ x ∈ d, x < 256 := by
    have h := hl0.2.2
    clear hl0
    induction l0 with
    | nil => exact ⟨[], rfl, (fun d h => by cases h)⟩
    | cons x l ih =>
      obtain ⟨d, rfl, hd⟩ := bytes_of (h x (List.mem_cons_self ..)).2.2
      obtain ⟨ds, rfl, hds⟩ := ih (fun y hy => h y (List.mem_cons_of_mem _ hy))
      exact ⟨d :: ds, rfl, fun e he => by
        rcases List.mem_cons.1 he with rfl | he
        · exact hd
        · exact hds e he⟩
  obtain ⟨ds, rfl, hd⟩ := hds
  clear hl0 ha hc
  have hj : Ev (fun k => l12_FrameBack.j0 k (ds.map ofN) a cut true) true := by
    refine Ev.step (fun k => ?_) heads_bind
    simp only [l12_FrameBack.j0, if_true]
  by_cases h20 : ((ds.map ofN).length : Int) > 20
  · refine Ev.congr (fun k => ?_) hj
    unfold l12_FrameBack.f
    rw [if_pos h20]
  by_cases h1 : a < 1
  · refine Ev.congr (fun k => ?_) hj
    unfold l12_FrameBack.f
    rw [if_neg h20, if_pos h1]
  by_cases h4 : a > 4
  · refine Ev.congr (fun k => ?_) hj
    unfold l12_FrameBack.f
    rw [if_neg h20, if_neg h1, decide_eq_true h4]
  obtain ⟨kn, rfl⟩ := Int.eq_ofNat_of_zero_le (show 0 ≤ a by omega)
  have hn : ds.length ≤ 20 := by rw [List.length_map] at h20; omega
  have key := back_loop kn (by omega) (by omega) ds hd hn cut ds.length 0 (by omega) (fun d h => by rw [List.take_zero] at h; cases h)
  have hends : ends kn ds 0 = [0] := by
    show [((E12 kn ds 0 : Nat) : Int)] = [0]
    rw [E12_zero]
    rfl
  rw [List.take_zero, hends] at key
  refine Ev.congr (f := fun k => l12_FrameBack.j0 k (ds.map ofN) (kn : Int) cut false) (fun k => ?_) (Ev.step (fun k => ?_) key)
  · unfold l12_FrameBack.f
    rw [if_neg h20, if_neg h1, decide_eq_false h4]
  · simp only [l12_FrameBack.j0]
    rw [if_neg (by decide)]
    all_goals rfl
end Go.Proofs.YtbnkcbfhappgnaaDoor.Pure
