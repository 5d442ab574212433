import Derived.Test.YtdhjhcdeeelmhaaHx0
namespace Go.Proofs.Ytdhjhcdeeelmhaa.Fn
set_option maxHeartbeats 8000000
set_option maxRecDepth 100000
open Go.RowKit Go.Proofs.YtdhjhcdeeelmhaaW.PrintWords Go.Proofs.YtdhjhcdeeelmhaaW.PrintLast Go.Proofs.YtdhjhcdeeelmhaaW.PrintMore
attribute [local go_sem] max2_int min2_int max_two min_two max_three min_three max_four min_four
set_option linter.unusedVariables false
set_option linter.unusedSimpArgs false
def bits_RotateLeft32.f (a0 : Int) (a1 : Int) : Option (Int) := if 0 ≤ (Go.bits .and .u64 (IntKind.u64.wrap (a1)) 31) then (if 0 ≤ (IntKind.u64.wrap (32 - (Go.bits .and .u64 (IntKind.u64.wrap (a1)) 31))) then (some (Go.bits .or .u32 (shl .u32 a0 (Go.bits .and .u64 (IntKind.u64.wrap (a1)) 31)) (shr .u32 a0 (IntKind.u64.wrap (32 - (Go.bits .and .u64 (IntKind.u64.wrap (a1)) 31)))))) else (none)) else (none)
theorem bits_RotateLeft32.calls (a0 : Int) (a1 : Int) (r : Int) (w : World) (h : bits_RotateLeft32.f a0 a1 = some r) :
    Calls Try.prog 33 #[.int .u32 a0, .int .i64 a1] w fun e w' => e = .returned (.int .u32 r) ∧ Drawn0 w w' := by
 have H : (if 0 ≤ (Go.bits .and .u64 (IntKind.u64.wrap (a1)) 31) then (if 0 ≤ (IntKind.u64.wrap (32 - (Go.bits .and .u64 (IntKind.u64.wrap (a1)) 31))) then (some (Go.bits .or .u32 (shl .u32 a0 (Go.bits .and .u64 (IntKind.u64.wrap (a1)) 31)) (shr .u32 a0 (IntKind.u64.wrap (32 - (Go.bits .and .u64 (IntKind.u64.wrap (a1)) 31)))))) else (none)) else (none)) = some r := h; clear h; obtain ⟨ji3, hji3⟩ : ∃ j_ : Int, (Go.bits .and .u64 (IntKind.u64.wrap (a1)) 31) = j_ := ⟨_, rfl⟩; (replace H : (if 0 ≤ (ji3) then (if 0 ≤ (IntKind.u64.wrap (32 - (ji3))) then (some (Go.bits .or .u32 (shl .u32 a0 (ji3)) (shr .u32 a0 (IntKind.u64.wrap (32 - (ji3)))))) else (none)) else (none)) = some r := by first | (rw [hji3] at H; exact H) | (simp only [hji3] at H ⊢; exact H)); (by_cases c4 : 0 ≤ (ji3)); (· rw [if_pos c4] at H; have c4b0 := eq_true c4; have c4b1 : decide (0 ≤ (ji3)) = true := dT_ c4; clear c4; obtain ⟨ji5, hji5⟩ : ∃ j_ : Int, (shl .u32 a0 (ji3)) = j_ := ⟨_, rfl⟩; (replace H : (if 0 ≤ (IntKind.u64.wrap (32 - (ji3))) then (some (Go.bits .or .u32 (ji5) (shr .u32 a0 (IntKind.u64.wrap (32 - (ji3)))))) else (none)) = some r := by first | (rw [hji5] at H; exact H) | (simp only [hji5] at H ⊢; exact H)); have hji5_ : (IntKind.u32.wrap (a0 * 2 ^ min (ji3).toNat 32)) = ji5 := hji5; have hji5z : (ji3) ≤ 32 → (IntKind.u32.wrap (a0 * 2 ^ (ji3).toNat)) = ji5 := shl_small hji5; obtain ⟨ji6, hji6⟩ : ∃ j_ : Int, (IntKind.u64.wrap (32 - (ji3))) = j_ := ⟨_, rfl⟩; (replace H : (if 0 ≤ (ji6) then (some (Go.bits .or .u32 (ji5) (shr .u32 a0 (ji6)))) else (none)) = some r := by first | (rw [hji6] at H; exact H) | (simp only [hji6] at H ⊢; exact H)); (by_cases c7 : 0 ≤ (ji6)); (· rw [if_pos c7] at H; have c7b0 := eq_true c7; have c7b1 : decide (0 ≤ (ji6)) = true := dT_ c7; clear c7; obtain ⟨ji8, hji8⟩ : ∃ j_ : Int, (shr .u32 a0 (ji6)) = j_ := ⟨_, rfl⟩; (replace H : (some (Go.bits .or .u32 (ji5) (ji8))) = some r := by first | (rw [hji8] at H; exact H) | (simp only [hji8] at H ⊢; exact H)); have hji8_ : (a0 / 2 ^ min (ji6).toNat 32) = ji8 := hji8; have hji8z : (ji6) ≤ 32 → (a0 / 2 ^ (ji6).toNat) = ji8 := shr_small hji8; obtain rfl := oJ_ H; simp only [oI_, pI_] at H; obtain ⟨rfl⟩ := H; (go_enter Try.func33, Try.ntmps33); go_wp2; go_ret; (exact ⟨by first | rfl | (simp; done) | (simp only [← hji3, ← hji5, ← hji6, ← hji8] <;> (first | rfl | simp)) | (simp [*]; done), by repeat (first | exact Drawn0.refl _ | apply Drawn0.step)⟩)); (· rw [if_neg c7] at H; exact absurd H (by simp))); (· rw [if_neg c4] at H; exact absurd H (by simp))
def sha_Check.f (l0_0 : List Int) (l0_1 : List Int) (a0_2 : Int) : Option (Bool) := if (l0_0.length : Int) = 8 then (if (l0_1.length : Int) < 64 then (some ((IntKind.u64.wrap ((l0_1.length : Int))) == (Int.tmod a0_2 64))) else (some false)) else (some false)
theorem sha_Check.calls (A0_0 : Option Addr) (c0_0 : Nat) (l0_0 : List Int) (A0_1 : Option Addr) (c0_1 : Nat) (l0_1 : List Int) (a0_2 : Int) (r : Bool) (w : World) (hr0_0 : Kd.C (Kd.int .u32) w A0_0 l0_0.length l0_0) (hc0_0 : l0_0.length ≤ c0_0) (hr0_1 : Kd.C (Kd.int .u8) w A0_1 l0_1.length l0_1) (hc0_1 : l0_1.length ≤ c0_1) (h : sha_Check.f l0_0 l0_1 a0_2 = some r) :
    Calls Try.prog 7 #[.agg #[.slice A0_0 l0_0.length c0_0, .slice A0_1 l0_1.length c0_1, .int .u64 a0_2]] w fun e w' => e = .returned (.bool r) ∧ Below w.heap.size w w' := by
 have hu26 := Try.underlying26; have HR0_0 := aM_ hr0_0; have HC0_0 := aM_ hc0_0; clear hr0_0 hc0_0; have HR0_1 := aM_ hr0_1; have HC0_1 := aM_ hc0_1; clear hr0_1 hc0_1; have HB := aM_ (Below.refl w.heap.size w); have H : (if (l0_0.length : Int) = 8 then (if (l0_1.length : Int) < 64 then (some ((IntKind.u64.wrap ((l0_1.length : Int))) == (Int.tmod a0_2 64))) else (some false)) else (some false)) = some r := h; clear h; (by_cases c2 : (l0_0.length : Int) = 8)
 · rw [if_pos c2] at H
   have c2b0 : ((l0_0.length : Int) == 8) = true := beq_iff_eq.mpr c2; have c2b1 : ((l0_0.length : Int) != 8) = false := bne_eq_false_iff_eq.mpr c2; clear c2; (by_cases c3 : (l0_1.length : Int) < 64)
   · rw [if_pos c3] at H
     have c3b0 : decide ((l0_1.length : Int) < 64) = true := dT_ c3; have c3b1 : decide (l0_1.length < 64) = true := dT_ (by omega); clear c3; obtain rfl := oJ_ H; simp only [oI_, pI_] at H; obtain ⟨rfl⟩ := H; (go_enter Try.func7, Try.ntmps7)
     go_wp2_with (first | ((with_reducible refine gate_dst (N := 1) rfl ?_); (try (refine gate_guard (by rfl) ?_; dsimp only)); refine box_event ?hg (N := 1) ?hd (cs := #[.slice A0_0 l0_0.length c0_0, .slice A0_1 l0_1.length c0_1, .int .u64 a0_2]) (t := 26) ?hr ?_; (case hd => rfl); (case hg => rfl); (case hr => first | (go_simp; done) | (go_simp; rfl)); intro gb101 hg w4 hbox hb; have n0_ := aM_ (bT_ (bZ0_ HB.out) hb); have n1_ := aM_ (hbox); have n2_ := aM_ ((by rw [hg]; exact (bZ_ (bZ0_ HB.out)) : w.heap.size ≤ gb101)); have n3_ := aM_ ((by rw [hg]; exact (bZ_ (bZ0_ HB.out)) : w.heap.size ≤ gb101)); clear HB; have HB := n0_; have BK101 := n1_; have GW101 := n2_; have GE101 := n3_; clear n0_ n1_ n2_ n3_; clear hb hbox hg; obtain ⟨hcz5_0, hcz5_1, hcz5_2, hfz5_0, hfz5_1, hfz5_2⟩ := k6_ BK101.out))
     go_ret; (exact ⟨by first | rfl | (simp [errW_none, errW_some] <;> rfl) | (simp [*, errW_none, errW_some] <;> rfl), by exact bZ1_ HB.out GE101.out⟩)
   · rw [if_neg c3] at H
     have c3b0 : decide ((l0_1.length : Int) < 64) = false := decide_eq_false c3; have c3b1 : decide (l0_1.length < 64) = false := decide_eq_false (by omega); clear c3; obtain rfl := oJ_ H; simp only [oI_, pI_] at H; obtain ⟨rfl⟩ := H; (go_enter Try.func7, Try.ntmps7)
     go_wp2_with (first | ((with_reducible refine gate_dst (N := 1) rfl ?_); (try (refine gate_guard (by rfl) ?_; dsimp only)); refine box_event ?hg (N := 1) ?hd (cs := #[.slice A0_0 l0_0.length c0_0, .slice A0_1 l0_1.length c0_1, .int .u64 a0_2]) (t := 26) ?hr ?_; (case hd => rfl); (case hg => rfl); (case hr => first | (go_simp; done) | (go_simp; rfl)); intro gb101 hg w6 hbox hb; have n0_ := aM_ (bT_ (bZ0_ HB.out) hb); have n1_ := aM_ (hbox); have n2_ := aM_ ((by rw [hg]; exact (bZ_ (bZ0_ HB.out)) : w.heap.size ≤ gb101)); have n3_ := aM_ ((by rw [hg]; exact (bZ_ (bZ0_ HB.out)) : w.heap.size ≤ gb101)); clear HB; have HB := n0_; have BK101 := n1_; have GW101 := n2_; have GE101 := n3_; clear n0_ n1_ n2_ n3_; clear hb hbox hg; obtain ⟨hcz7_0, hcz7_1, hcz7_2, hfz7_0, hfz7_1, hfz7_2⟩ := k6_ BK101.out))
     go_ret; (exact ⟨by first | rfl | (simp [errW_none, errW_some] <;> rfl) | (simp [*, errW_none, errW_some] <;> rfl), by exact bZ1_ HB.out GE101.out⟩)
 · rw [if_neg c2] at H
   have c2b0 : ((l0_0.length : Int) == 8) = false := beq_eq_false_iff_ne.mpr c2; have c2b1 : ((l0_0.length : Int) != 8) = true := bne_iff_ne.mpr c2; obtain rfl := oJ_ H; simp only [oI_, pI_] at H; obtain ⟨rfl⟩ := H; (go_enter Try.func7, Try.ntmps7)
   go_wp2_with (first | ((with_reducible refine gate_dst (N := 1) rfl ?_); (try (refine gate_guard (by rfl) ?_; dsimp only)); refine box_event ?hg (N := 1) ?hd (cs := #[.slice A0_0 l0_0.length c0_0, .slice A0_1 l0_1.length c0_1, .int .u64 a0_2]) (t := 26) ?hr ?_; (case hd => rfl); (case hg => rfl); (case hr => first | (go_simp; done) | (go_simp; rfl)); intro gb101 hg w8 hbox hb; have n0_ := aM_ (bT_ (bZ0_ HB.out) hb); have n1_ := aM_ (hbox); have n2_ := aM_ ((by rw [hg]; exact (bZ_ (bZ0_ HB.out)) : w.heap.size ≤ gb101)); have n3_ := aM_ ((by rw [hg]; exact (bZ_ (bZ0_ HB.out)) : w.heap.size ≤ gb101)); clear HB; have HB := n0_; have BK101 := n1_; have GW101 := n2_; have GE101 := n3_; clear n0_ n1_ n2_ n3_; clear hb hbox hg; obtain ⟨hcz9_0, hcz9_1, hcz9_2, hfz9_0, hfz9_1, hfz9_2⟩ := k6_ BK101.out))
   go_ret; (exact ⟨by first | rfl | (simp [errW_none, errW_some] <;> rfl) | (simp [*, errW_none, errW_some] <;> rfl), by exact bZ1_ HB.out GE101.out⟩)
def bytes_Clone.f (l0 : List Int) : Option (List Int) := if l0.length < 140737488355328 then some l0 else none
set_option maxHeartbeats 4000000 in
theorem bytes_Clone.calls (A0 : Option Addr) (c0 : Nat) (l0 : List Int) (r : List Int) (w : World) (hr0 : Kd.C (Kd.int .u8) w A0 l0.length l0) (hc0 : l0.length ≤ c0) (h : bytes_Clone.f l0 = some r) :
    Calls Try.prog 20 #[.slice A0 l0.length c0] w fun e w' => ∃ v0_ : Value, e = .returned (v0_) ∧ Kd.R (Kd.int .u8) 5 w' w.heap.size (fun _ => True) v0_ r ∧ Below w.heap.size w w' := by
 have HB := aM_ (Below.refl w.heap.size w); unfold bytes_Clone.f at h; (by_cases c1 : l0.length < 140737488355328)
 · rw [if_pos c1] at h
   obtain rfl := oJ_ h; clear h; (by_cases hA : A0 = none)
   · subst hA
     have hl : l0 = [] := by
      cases l0 with
      | nil => rfl
      | cons x xs =>
       obtain ⟨ad, he, _⟩ := hr0.2.2 (by simp); (cases he)
     subst hl; have heq := fun w => Lib.run_eql_slice_nil (P := Try.prog) w 23 5 none 0 c0 0 0 Try.underlying23; have HR0 := aM_ hr0; clear hr0 hc0 c1; (go_enter Try.func20, Try.ntmps20); go_wp2; go_ret; exact ⟨_, rfl, Kd.R_nil _ _ _ _ _, by exact bZ0_ HB.out⟩
   · obtain ⟨a, rfl⟩ := Option.ne_none_iff_exists'.mp hA
     clear hA; have heq := fun w => Lib.run_eql_slice_nil (P := Try.prog) w 23 5 (some a) l0.length c0 0 0 Try.underlying23; simp only [Option.isNone_some] at heq; have HR0 := aM_ hr0; have HC0 := aM_ hc0; have LM := aM_ c1; clear hr0 hc0 c1; obtain ⟨y1, hy1⟩ : ∃ y_ : List Int, y_ = ([] : List Int) := ⟨_, rfl⟩; have Ny1 := aM_ hy1; clear hy1; obtain ⟨y2, hy2⟩ : ∃ y_ : List Int, y_ = y1 ++ l0 := ⟨_, rfl⟩; have Ny2 := aM_ hy2; clear hy2; (go_enter Try.func20, Try.ntmps20)
     go_wp2_with (first | ((with_reducible refine gate_dst (N := 5) rfl ?_); refine Kd.R_lit (Kd.int .u8) _ 5 ?hg (N := 5) ?hd (xs := ([] : List Int)) (inner := []) (ok := fun _ => True) (okp := fun _ => True) ?hr ?hp (fun _ hk => hk) trivial (Below.refl _ _) (Nat.le_refl _) (by simp) ?_; (case hd => rfl); (case hg => rfl); (case hr => first | (go_simp; done) | (go_simp; rfl)); (case hp => exact (Reps.none _ _)); intro v1 w5 ho6 hb hg_ hnew_; clear hg_ hnew_; rw [← Ny1.out] at ho6; have n0_ := aM_ (Kd.R_lower ho6 (bZ_ (bZ0_ HB.out))); have n1_ := aM_ (bT_ (bZ0_ HB.out) hb); clear HB; have HO1 := n0_; have HB := n1_; clear n0_ n1_; clear hb ho6) | ((with_reducible refine gate_builtin (b := .append) (xs := #[.tmp 5, .tmp 6]) rfl ?_); at_builtin; refine Kd.R_append_rows (Kd.int .u8) (w0 := w) w.heap.size rfl (.tmp 5) (.tmp 6) 23 5 (.int .u8 0) 1 rfl Try.underlying23 info5 rfl (by decide) (by omega) v1 y1 l0 _ _ _ (fun _ => True) (fun _ => False) rfl rfl ?aO ?aR (fun _ _ h => h) (fun _ h => h.elim) ?aF ?aB ?aS ?aL ?_; (case aR => repeat (first | exact (Kd.C_below HR0.out HB.out) | (with_reducible refine Kd.C_alloc ?_ _) | (with_reducible refine Kd.C_drewN ?_ _) | (with_reducible refine Kd.C_drew ?_))); (case aB => exact (bZ0_ HB.out)); (case aF => exact (fun _ _ => trivial)); (case aO => exact (rZ_ HO1.out)); (case aS => exact (bZ_ (bZ0_ HB.out))); (case aL => have := LM.out; have := Ny1.out; subst this; simp; omega); intro v2 w7 ho hb hg hat; rw [← Ny2.out] at ho; have n0_ := aM_ hb; have n1_ := aM_ ho; clear HB; clear HO1; have HB := n0_; have HO2 := n1_; clear n0_ n1_; clear ho hb hg hat))
     go_ret; (have hfin : y2 = l0 := by rw [Ny2.out, Ny1.out]; rfl); exact ⟨_, rfl, by (with_reducible repeat (first | apply rA_ | apply rN_ | apply rD_)); rw [← hfin]; exact Kd.R_mono HO2.out (fun _ hk => trivial), by exact bZ0_ HB.out⟩
 (· rw [if_neg c1] at h; exact absurd h (by simp))
def sha_has.l0 : Nat → Int → List Int → Int → Int → Option (Bool)
  | 0, _, _, _, _ => none
  | k + 1, x1, x7, x8, x9 => if x9 < x8 then (if 0 ≤ x9 then (if x9 < (x7.length : Int) then (if (rd x7 x9) = 0 then (none) else (if (Int.tmod x1 (rd x7 x9)) = 0 then (some true) else (sha_has.l0 k x1 x7 x8 (wrap64 (x9 + 1))))) else (none)) else (none)) else (some false)
def sha_has.f (k : Nat) (l0 : List Int) (a1 : Int) : Option (Bool) := sha_has.l0 k a1 l0 (l0.length : Int) 0
theorem sha_has.mono_l : ∀ k, (∀ y0 y1 y2 y3, LeO (sha_has.l0 k y0 y1 y2 y3) (sha_has.l0 (k + 1) y0 y1 y2 y3))
  | 0 => fun _ _ _ _ r h => by simp [sha_has.l0] at h
  | k + 1 => by
    have ih0 := sha_has.mono_l k
    · intro y0 y1 y2 y3
      unfold sha_has.l0
      repeat' first
      | (with_reducible exact ih0 _ _ _ _)
      | (with_reducible exact LeO.refl _)
      | (with_reducible exact LeO.none _)
      | (with_reducible refine LeO.ite ?_ ?_)
      | (with_reducible refine LeO.bind ?_ (fun _ => ?_))
      | exact ih0 _ _ _ _
      | exact LeO.none _
      | refine LeO.ite ?_ ?_
      | refine LeO.bind ?_ (fun _ => ?_)
theorem sha_has.mono : ∀ a0 a1 k, LeO (sha_has.f k a0 a1) (sha_has.f (k + 1) a0 a1) := by
 intro a0 a1 k; have ih0 := sha_has.mono_l k; unfold sha_has.f
 repeat' first
     | (with_reducible exact ih0 _ _ _ _)
     | (with_reducible exact LeO.refl _)
     | (with_reducible exact LeO.none _)
     | (with_reducible refine LeO.ite ?_ ?_)
     | (with_reducible refine LeO.bind ?_ (fun _ => ?_))
     | exact ih0 _ _ _ _
     | exact LeO.none _
     | refine LeO.ite ?_ ?_
     | refine LeO.bind ?_ (fun _ => ?_)
def sha_primes.l0 : Nat → Int → List Int → Int → Option (List Int)
  | 0, _, _, _ => none
  | k + 1, x0, x3, x4 => if (x3.length : Int) < x0 then ((sha_has.f k x3 x4).bind fun t103 => (if t103 = true then (sha_primes.l0 k x0 x3 (IntKind.u64.wrap (x4 + 1))) else (if x3.length < 17592186044416 then (sha_primes.l0 k x0 (x3 ++ [x4]) (IntKind.u64.wrap (x4 + 1))) else (none)))) else (some x3)
def sha_primes.f (k : Nat) (a0 : Int) : Option (List Int) := sha_primes.l0 k a0 ([] : List Int) 2
theorem sha_primes.mono_l : ∀ k, (∀ y0 y1 y2, LeO (sha_primes.l0 k y0 y1 y2) (sha_primes.l0 (k + 1) y0 y1 y2))
  | 0 => fun _ _ _ r h => by simp [sha_primes.l0] at h
  | k + 1 => by
    have ih0 := sha_primes.mono_l k
    · intro y0 y1 y2
      unfold sha_primes.l0
      repeat' first
      | (with_reducible exact ih0 _ _ _)
      | (with_reducible exact sha_has.mono _ _ _)
      | (with_reducible exact LeO.refl _)
      | (with_reducible exact LeO.none _)
      | (with_reducible refine LeO.ite ?_ ?_)
      | (with_reducible refine LeO.bind ?_ (fun _ => ?_))
      | exact ih0 _ _ _
      | exact LeO.none _
      | refine LeO.ite ?_ ?_
      | refine LeO.bind ?_ (fun _ => ?_)
theorem sha_primes.mono : ∀ a0 k, LeO (sha_primes.f k a0) (sha_primes.f (k + 1) a0) := by
 intro a0 k; have ih0 := sha_primes.mono_l k; unfold sha_primes.f
 repeat' first
     | (with_reducible exact ih0 _ _ _)
     | (with_reducible exact sha_has.mono _ _ _)
     | (with_reducible exact LeO.refl _)
     | (with_reducible exact LeO.none _)
     | (with_reducible refine LeO.ite ?_ ?_)
     | (with_reducible refine LeO.bind ?_ (fun _ => ?_))
     | exact ih0 _ _ _
     | exact LeO.none _
     | refine LeO.ite ?_ ?_
     | refine LeO.bind ?_ (fun _ => ?_)
theorem sha_primes1.calls (x p : Int) (g : Nat) (w : World) (hp : p ≠ 0) (hx : w.cell? ⟨g, 0, none⟩ = some (.int .u64 x)) :
    Calls Try.prog 30 #[.int .u64 p, .pointer (some ⟨g, 0, none⟩)] w fun e w' => e = .returned (.bool (Int.tmod x p == 0)) ∧ w' = w := by
 have hp0 : (p == 0) = false := beq_eq_false_iff_ne.mpr hp; (go_enter Try.func30, Try.ntmps30); go_wp2; go_ret; exact ⟨rfl, rfl⟩
theorem sha_idx.calls (k : Nat) (A0 : Option Addr) (c0 : Nat) (l0 : List Int) (x : Int) (b : Bool) (g : Nat) (w : World) (hr0 : Kd.C (Kd.int .u64) w A0 l0.length l0) (hc0 : l0.length ≤ c0) (hx : w.cell? ⟨g, 0, none⟩ = some (.int .u64 x)) (h : sha_has.f k l0 x = some b) :
    Calls Try.prog 34 #[.slice A0 l0.length c0, .func (.func 30) #[] #[.pointer (some ⟨g, 0, none⟩)]] w fun e w' => ∃ j : Int, e = .returned (.int .i64 j) ∧ decide (0 ≤ j) = b ∧ w' = w := by
 have HR0 := aM_ hr0; have HC0 := aM_ hc0; have HX := aM_ hx; clear hr0 hc0 hx; have H' := aM_ (show sha_has.l0 k x l0 (l0.length : Int) 0 = some b from h); clear h; (go_enter Try.func34, Try.ntmps34); go_wp2; (go_loopg [8] k (fun kq v8 w' => ∃ (x8 : Int), v8 = .int .i64 x8 ∧ Aside0 (sha_has.l0 kq x l0 (l0.length : Int) x8 = some b) ∧ Aside0 (kq ≤ k) ∧ w' = w))
 case atStart => exact ⟨0, rfl, H', ⟨Nat.le_refl _⟩, rfl⟩
 case round =>
  clear H'; obtain ⟨x8, rfl, HA, HK1, rfl⟩ := hrel
  cases gk with
  | zero => exact absurd HA.out (by simp [sha_has.l0])
  | succ k1 =>
   have H := HA.out; clear HA; simp only [sha_has.l0] at H; (by_cases c3 : x8 < (l0.length : Int))
   · rw [if_pos c3] at H
     have c3b0 : decide (x8 < (l0.length : Int)) = true := dT_ c3; (by_cases c4 : 0 ≤ x8)
     · rw [if_pos c4, if_pos c3] at H
       have p1 := c4; have q1 := c3; have hpos := aM_ c4; obtain ⟨ad1, e1, hx1⟩ := Kd.at_int HR0.out x8 p1 q1; (cases e1); replace p1 := eq_true p1; replace q1 := eq_true q1; clear c3 c4; (by_cases c5 : rd l0 x8 = 0); (· rw [if_pos c5] at H; (cases H))
       · rw [if_neg c5] at H
         have C5 := aM_ c5; clear c5; (by_cases c6 : Int.tmod x (rd l0 x8) = 0); (· rw [if_pos c6] at H; have c6b0 : (Int.tmod x (rd l0 x8) == 0) = true := beq_iff_eq.mpr c6; clear c6; obtain rfl := oJ_ H; clear H; (go_wp2_with (go_at_call 30; refine (sha_primes1.calls x (rd l0 x8) g _ C5.out HX.out).mono ?_; rintro e w' ⟨rfl, rfl⟩)); go_ret; exact ⟨_, rfl, dT_ hpos.out, rfl⟩)
         · rw [if_neg c6] at H
           have c6b0 : (Int.tmod x (rd l0 x8) == 0) = false := beq_eq_false_iff_ne.mpr c6; clear c6; have H' := aM_ H; clear H; (go_wp2_with (go_at_call 30; refine (sha_primes1.calls x (rd l0 x8) g _ C5.out HX.out).mono ?_; rintro e w' ⟨rfl, rfl⟩)); (go_roundg k1)
           case measure => have := HK1.out; omega
           case rel => exact ⟨(wrap64 (x8 + 1)), (by first | rfl | (simp; done) | (simp [*]; done)), H', ⟨by have := HK1.out; omega⟩, rfl⟩
     (· rw [if_neg c4] at H; (cases H))
   (· rw [if_neg c3] at H; have c3b0 : decide (x8 < (l0.length : Int)) = false := decide_eq_false c3; clear c3; obtain rfl := oJ_ H; go_wp2; go_ret; exact ⟨_, rfl, by decide, rfl⟩)
set_option maxHeartbeats 8000000 in
theorem sha_contains.calls (k : Nat) (A0 : Option Addr) (c0 : Nat) (l0 : List Int) (x : Int) (b : Bool) (g : Nat) (w : World) (hr0 : Kd.C (Kd.int .u64) w A0 l0.length l0) (hc0 : l0.length ≤ c0) (hx : w.cell? ⟨g, 0, none⟩ = some (.int .u64 x)) (h : sha_has.f k l0 x = some b) :
    Calls Try.prog 29 #[.slice A0 l0.length c0, .func (.func 30) #[] #[.pointer (some ⟨g, 0, none⟩)]] w fun e w' => e = .returned (.bool b) ∧ w' = w := by
 have HI := aM_ (sha_idx.calls k A0 c0 l0 x b g w hr0 hc0 hx h); clear hr0 hc0 hx h; (go_enter Try.func29, Try.ntmps29); (go_wp2_with (go_at_call 34; refine HI.out.mono ?_; rintro e w' ⟨j, rfl, hj, rfl⟩)); go_ret; exact ⟨by first | rfl | (rw [← hj]; rfl) | (simp [← hj]), rfl⟩
theorem sha_primes.calls (k : Nat) (a0 : Int) (r : List Int) (w : World) (h : sha_primes.f k a0 = some r) :
    Calls Try.prog 24 #[.int .i64 a0] w fun e w' => ∃ v0_ : Value, e = .returned (v0_) ∧ Kd.R (Kd.int .u64) 24 w' w.heap.size (fun _ => True) v0_ r ∧ Below w.heap.size w w' := by
 have hmf : ∀ (fn : Fn) (first cap : Array Value) (w : World), (Instr.makeFunc fn first cap).run Try.prog w = .ok (.func fn first cap) w := fun _ _ _ _ => rfl; have HB := aM_ (Below.refl w.heap.size w); have H' := aM_ (show sha_primes.l0 k a0 ([] : List Int) 2 = some r from h); clear h; have hB1 : Below w.heap.size w (w.alloc (.cells #[.int .u64 2] 24)) := (Below.refl _ _).alloc (Nat.le_refl _) _; have hC1 : (w.alloc (.cells #[.int .u64 2] 24)).heap[w.heap.size]? = some (.cells #[.int .u64 2] 24 (0, 0)) := blk_new w _; have HB1 := aM_ hB1; have HC1 := aM_ hC1; clear hB1 hC1; (go_enter Try.func24, Try.ntmps24); go_wp2; (go_loopg [3, 4] k (fun kq v3 v4 w' => ∃ (x3_1 : List Int) (x4_1 : Int) (gx : Nat), v4 = .pointer (some ⟨gx, 0, none⟩) ∧ Aside0 (sha_primes.l0 kq a0 x3_1 x4_1 = some r) ∧ Aside0 (kq ≤ k) ∧ Aside0 (Kd.R (Kd.int .u64) 24 w' w.heap.size (fun b => b ≠ gx) v3 x3_1) ∧ Aside0 (w'.heap[gx]? = some (.cells #[.int .u64 x4_1] 24 (0, 0))) ∧ Aside0 (w.heap.size ≤ gx) ∧ Aside0 (Below w.heap.size w w')))
 case atStart => exact ⟨[], 2, w.heap.size, rfl, H', ⟨Nat.le_refl _⟩, ⟨Kd.R_nil _ _ _ _ _⟩, HC1, ⟨Nat.le_refl _⟩, HB1⟩
 case round =>
  clear H' HB1 HC1; obtain ⟨x3_1, x4_1, gx, rfl, HA, HK1, HO_3, HX, HG, HB⟩ := hrel
  cases gk with
  | zero => exact absurd HA.out (by simp [sha_primes.l0])
  | succ k1 =>
   have H := HA.out; clear HA; simp only [sha_primes.l0] at H; have hx0 : wr.cell? ⟨gx, 0, none⟩ = some (.int .u64 x4_1) := kC_ HX.out 0; obtain ⟨Ao5, co5, eo5⟩ := Kd.R_slice HO_3.out; subst eo5; (by_cases c2 : (x3_1.length : Int) < a0)
   · rw [if_pos c2] at H
     have c2b0 : decide ((x3_1.length : Int) < a0) = true := dT_ c2; clear c2; replace H := Option.bind_eq_some_iff.mp H; obtain ⟨t103, A30, H⟩ := H; have A3 := aM_ (sha_contains.calls k1 Ao5 co5 x3_1 x4_1 t103 gx wr (rR_ HO_3.out).2.2 (rR_ HO_3.out).2.1 hx0 A30); clear A30; (by_cases c4 : t103 = true)
     · subst c4
       (have H1 : (sha_primes.l0 k1 a0 x3_1 (IntKind.u64.wrap (x4_1 + 1))) = some r := by rw [if_pos rfl] at H; exact H); clear H; have H' := aM_ H1; clear H1; (go_wp2_with (go_at_call 29; refine A3.out.mono ?_; rintro e w' ⟨rfl, rfl⟩)); (go_roundg k1)
       case measure => have := HK1.out; omega
       case rel => exact ⟨x3_1, (IntKind.u64.wrap (x4_1 + 1)), _, (by first | rfl | (simp; done)), H', ⟨by have := HK1.out; omega⟩, ⟨Kd.R_mono (Kd.R_old HO_3.out (bA_ (Below.refl _ _) _)) (fun b hb => Nat.ne_of_lt hb.2)⟩, ⟨blk_new _ _⟩, ⟨HB.out.size⟩, ⟨HB.out.alloc HB.out.size _⟩⟩
     · replace c4 := Bool.eq_false_iff.mpr c4
       subst c4; (have H1 : (if x3_1.length < 17592186044416 then (sha_primes.l0 k1 a0 (x3_1 ++ [x4_1]) (IntKind.u64.wrap (x4_1 + 1))) else (none)) = some r := by rw [if_neg (show ¬ (false = true) by decide)] at H; exact H); clear H; (by_cases c6 : x3_1.length < 17592186044416)
       · rw [if_pos c6] at H1
         have LMc6 := aM_ c6; clear c6; obtain ⟨y104, hy104⟩ : ∃ y_ : List Int, y_ = (x3_1 ++ [x4_1]) := ⟨_, rfl⟩; rw [← hy104] at H1; have Ny104 := aM_ hy104; clear hy104; have H' := aM_ H1; clear H1; have hgl := blk_lt HX.out; have HGL := aM_ hgl; have hne : some gx ≠ (Value.slice Ao5 x3_1.length co5).ownBlock := fun e => (HO_3.out.1 gx e.symm) rfl; have HNE := aM_ hne; clear hgl hne; (go_wp2_with (first | (go_at_call 29; refine A3.out.mono ?_; rintro e w' ⟨rfl, rfl⟩) | ((with_reducible refine gate_builtin (b := .append) (xs := #[.tmp 15, .tmp 17]) rfl ?_); at_builtin; refine Kd.R_append (Kd.int .u64) (w0 := w) w.heap.size rfl (.tmp 15) (.tmp 17) 48 24 (.int .u64 0) 8 rfl Try.underlying48 info24 rfl (by decide) (by omega) (.slice Ao5 x3_1.length co5) x3_1 x4_1 [.int .u64 x4_1] (fun b => b ≠ gx) (fun _ => False) rfl rfl ?aP (fun _ hk => hk.elim) ?aF ?aO ?aB ?aS ?aL ?_; (case aP => exact rfl); (case aB => exact HB.out); (case aF => exact (fun b hb => Nat.ne_of_gt (Nat.lt_of_lt_of_le HGL.out hb))); (case aO => exact HO_3.out); (case aS => exact HB.out.size); (case aL => have := LMc6.out; omega); intro v105 w8 ho hb hg hat; rw [← Ny104.out] at ho; have hx8 := blk_grown HX.out hg HNE.out; have n2_ := aM_ hx8; have n0_ := aM_ hb; have n1_ := aM_ ho; replace hx8 : w8.cell? ⟨gx, 0, none⟩ = some (.int .u64 x4_1) := kC_ hx8 0; clear HB; have HB2 := n0_; have HO106 := n1_; have HX8 := n2_; clear n0_ n1_ n2_; clear ho hb hg hat))); (go_roundg k1)
         case measure => have := HK1.out; omega
         case rel => exact ⟨y104, (IntKind.u64.wrap (x4_1 + 1)), _, (by first | rfl | (simp; done)), H', ⟨by have := HK1.out; omega⟩, ⟨Kd.R_mono (Kd.R_old HO106.out (bA_ (Below.refl _ _) _)) (fun b hb => Nat.ne_of_lt hb.2)⟩, ⟨blk_new _ _⟩, ⟨HB2.out.size⟩, ⟨HB2.out.alloc HB2.out.size _⟩⟩
       (· rw [if_neg c6] at H1; (cases H1))
   (· rw [if_neg c2] at H; have c2b0 : decide ((x3_1.length : Int) < a0) = false := decide_eq_false c2; clear c2; obtain rfl := oJ_ H; go_wp2; go_ret; exact ⟨_, by first | rfl | (simp; done), Kd.R_mono HO_3.out (fun _ _ => trivial), HB.out⟩)
def bits_Mul64.f (a0 : Int) (a1 : Int) : Option (Int × Int) := some (IntKind.u64.wrap ((IntKind.u64.wrap ((IntKind.u64.wrap ((a0 / 4294967296) * (a1 / 4294967296))) + ((IntKind.u64.wrap ((IntKind.u64.wrap ((a0 / 4294967296) * (Go.bits .and .u64 a1 4294967295))) + ((IntKind.u64.wrap ((Go.bits .and .u64 a0 4294967295) * (Go.bits .and .u64 a1 4294967295))) / 4294967296))) / 4294967296))) + ((IntKind.u64.wrap ((Go.bits .and .u64 (IntKind.u64.wrap ((IntKind.u64.wrap ((a0 / 4294967296) * (Go.bits .and .u64 a1 4294967295))) + ((IntKind.u64.wrap ((Go.bits .and .u64 a0 4294967295) * (Go.bits .and .u64 a1 4294967295))) / 4294967296))) 4294967295) + (IntKind.u64.wrap ((Go.bits .and .u64 a0 4294967295) * (a1 / 4294967296))))) / 4294967296)), IntKind.u64.wrap (a0 * a1))
theorem bits_Mul64.calls (a0 : Int) (a1 : Int) (r1 : Int) (r2 : Int) (w : World) (h : bits_Mul64.f a0 a1 = some (r1, r2)) :
    Calls Try.prog 35 #[.int .u64 a0, .int .u64 a1] w fun e w' => e = .returned (.tuple #[.int .u64 r1, .int .u64 r2]) ∧ Drawn0 w w' := by
 have H : (some (IntKind.u64.wrap ((IntKind.u64.wrap ((IntKind.u64.wrap ((a0 / 4294967296) * (a1 / 4294967296))) + ((IntKind.u64.wrap ((IntKind.u64.wrap ((a0 / 4294967296) * (Go.bits .and .u64 a1 4294967295))) + ((IntKind.u64.wrap ((Go.bits .and .u64 a0 4294967295) * (Go.bits .and .u64 a1 4294967295))) / 4294967296))) / 4294967296))) + ((IntKind.u64.wrap ((Go.bits .and .u64 (IntKind.u64.wrap ((IntKind.u64.wrap ((a0 / 4294967296) * (Go.bits .and .u64 a1 4294967295))) + ((IntKind.u64.wrap ((Go.bits .and .u64 a0 4294967295) * (Go.bits .and .u64 a1 4294967295))) / 4294967296))) 4294967295) + (IntKind.u64.wrap ((Go.bits .and .u64 a0 4294967295) * (a1 / 4294967296))))) / 4294967296)), IntKind.u64.wrap (a0 * a1))) = some (r1, r2) := h; clear h; simp only [oI_, pI_] at H; obtain ⟨rfl, rfl⟩ := H; (go_enter Try.func35, Try.ntmps35); go_wp2; (go_ret2); exact ⟨by first | rfl | (simp; done) | (simp [*]; done), by repeat (first | exact Drawn0.refl _ | apply Drawn0.step)⟩
def bits_Add64.f (x y c : Int) : Option (Int × Int) := if 0 ≤ x ∧ 0 ≤ y ∧ c = 0 then some ((x + y + c) % 18446744073709551616, (x + y + c) / 18446744073709551616) else none
theorem bits_Add64.run {P : Program} (x y s t : Int) (h : bits_Add64.f x y 0 = some (s, t)) (W : World) : (add64Entry #[.int .u64 x, .int .u64 y, .int .u64 0]).run P W = .ok (.tuple #[.int .u64 s, .int .u64 t]) W := by
 unfold bits_Add64.f at h; (by_cases hc : 0 ≤ x ∧ 0 ≤ y ∧ (0 : Int) = 0); (· rw [if_pos hc] at h; obtain ⟨rfl, rfl⟩ := Prod.mk.inj (oJ_ h); exact run_add64 x y 0 hc.1 hc.2.1 (by decide) (by decide) W); (· rw [if_neg hc] at h; (cases h))
def sha_less.f (a0 : Int) (a1 : Int) (a2 : Bool) : Option (Bool) := (bits_Mul64.f a0 a0).bind fun bt102 => (if a2 = true then ((bits_Mul64.f bt102.2 a0).bind fun bt104 => ((bits_Mul64.f bt102.1 a0).bind fun bt106 => ((bits_Add64.f bt104.1 bt106.2 0).bind fun bt108 => (if (IntKind.u64.wrap (bt106.1 + bt108.2)) < (a1 / 4294967296) then (some true) else (if (IntKind.u64.wrap (bt106.1 + bt108.2)) = (a1 / 4294967296) then (if bt108.1 < (IntKind.u64.wrap (a1 * 4294967296)) then (some true) else (if bt108.1 = (IntKind.u64.wrap (a1 * 4294967296)) then (some (bt104.2 == 0)) else (some false))) else (some false)))))) else (if bt102.1 < a1 then (some true) else (if bt102.1 = a1 then (some (bt102.2 == 0)) else (some false))))
theorem sha_less.calls (a0 : Int) (a1 : Int) (a2 : Bool) (r : Bool) (w : World) (h : sha_less.f a0 a1 a2 = some r) :
    Calls Try.prog 31 #[.int .u64 a0, .int .u64 a1, .bool a2] w fun e w' => e = .returned (.bool r) ∧ Drawn0 w w' := by
 have H : ((bits_Mul64.f a0 a0).bind fun bt102 => (if a2 = true then ((bits_Mul64.f bt102.2 a0).bind fun bt104 => ((bits_Mul64.f bt102.1 a0).bind fun bt106 => ((bits_Add64.f bt104.1 bt106.2 0).bind fun bt108 => (if (IntKind.u64.wrap (bt106.1 + bt108.2)) < (a1 / 4294967296) then (some true) else (if (IntKind.u64.wrap (bt106.1 + bt108.2)) = (a1 / 4294967296) then (if bt108.1 < (IntKind.u64.wrap (a1 * 4294967296)) then (some true) else (if bt108.1 = (IntKind.u64.wrap (a1 * 4294967296)) then (some (bt104.2 == 0)) else (some false))) else (some false)))))) else (if bt102.1 < a1 then (some true) else (if bt102.1 = a1 then (some (bt102.2 == 0)) else (some false))))) = some r := h; clear h; replace H := Option.bind_eq_some_iff.mp H; obtain ⟨⟨t102, t103⟩, A40, H⟩ := H; replace H : (if a2 = true then ((bits_Mul64.f t103 a0).bind fun bt104 => ((bits_Mul64.f t102 a0).bind fun bt106 => ((bits_Add64.f bt104.1 bt106.2 0).bind fun bt108 => (if (IntKind.u64.wrap (bt106.1 + bt108.2)) < (a1 / 4294967296) then (some true) else (if (IntKind.u64.wrap (bt106.1 + bt108.2)) = (a1 / 4294967296) then (if bt108.1 < (IntKind.u64.wrap (a1 * 4294967296)) then (some true) else (if bt108.1 = (IntKind.u64.wrap (a1 * 4294967296)) then (some (bt104.2 == 0)) else (some false))) else (some false)))))) else (if t102 < a1 then (some true) else (if t102 = a1 then (some (t103 == 0)) else (some false)))) = some r := H; have A4 := aM_ A40; clear A40; (by_cases c5 : a2 = true)
 · subst c5
   (have H1 : ((bits_Mul64.f t103 a0).bind fun bt104 => ((bits_Mul64.f t102 a0).bind fun bt106 => ((bits_Add64.f bt104.1 bt106.2 0).bind fun bt108 => (if (IntKind.u64.wrap (bt106.1 + bt108.2)) < (a1 / 4294967296) then (some true) else (if (IntKind.u64.wrap (bt106.1 + bt108.2)) = (a1 / 4294967296) then (if bt108.1 < (IntKind.u64.wrap (a1 * 4294967296)) then (some true) else (if bt108.1 = (IntKind.u64.wrap (a1 * 4294967296)) then (some (bt104.2 == 0)) else (some false))) else (some false)))))) = some r := by rw [if_pos rfl] at H; exact H); clear H; have H := H1; clear H1; replace H := Option.bind_eq_some_iff.mp H; obtain ⟨⟨t104, t105⟩, A60, H⟩ := H; replace H : ((bits_Mul64.f t102 a0).bind fun bt106 => ((bits_Add64.f t104 bt106.2 0).bind fun bt108 => (if (IntKind.u64.wrap (bt106.1 + bt108.2)) < (a1 / 4294967296) then (some true) else (if (IntKind.u64.wrap (bt106.1 + bt108.2)) = (a1 / 4294967296) then (if bt108.1 < (IntKind.u64.wrap (a1 * 4294967296)) then (some true) else (if bt108.1 = (IntKind.u64.wrap (a1 * 4294967296)) then (some (t105 == 0)) else (some false))) else (some false))))) = some r := H; have A6 := aM_ A60; clear A60; replace H := Option.bind_eq_some_iff.mp H; obtain ⟨⟨t106, t107⟩, A70, H⟩ := H; replace H : ((bits_Add64.f t104 t107 0).bind fun bt108 => (if (IntKind.u64.wrap (t106 + bt108.2)) < (a1 / 4294967296) then (some true) else (if (IntKind.u64.wrap (t106 + bt108.2)) = (a1 / 4294967296) then (if bt108.1 < (IntKind.u64.wrap (a1 * 4294967296)) then (some true) else (if bt108.1 = (IntKind.u64.wrap (a1 * 4294967296)) then (some (t105 == 0)) else (some false))) else (some false)))) = some r := H; have A7 := aM_ A70; clear A70; replace H := Option.bind_eq_some_iff.mp H; obtain ⟨⟨t108, t109⟩, A80, H⟩ := H; replace H : (if (IntKind.u64.wrap (t106 + t109)) < (a1 / 4294967296) then (some true) else (if (IntKind.u64.wrap (t106 + t109)) = (a1 / 4294967296) then (if t108 < (IntKind.u64.wrap (a1 * 4294967296)) then (some true) else (if t108 = (IntKind.u64.wrap (a1 * 4294967296)) then (some (t105 == 0)) else (some false))) else (some false))) = some r := H; have A8 := aM_ A80; clear A80; have hE8 := @run_callFunc_extern Try.prog 36 _ add64Entry Try.func36 (by kernel_rfl) (by kernel_rfl) (by kernel_rfl) (by kernel_rfl); have hA8 := bits_Add64.run t104 t107 t108 t109 A8.out (P := Try.prog); (by_cases c9 : (IntKind.u64.wrap (t106 + t109)) < (a1 / 4294967296))
   · rw [if_pos c9] at H
     have c9b0 : decide ((IntKind.u64.wrap (t106 + t109)) < (a1 / 4294967296)) = true := dT_ c9; clear c9; obtain rfl := oJ_ H; (go_enter Try.func31, Try.ntmps31)
     go_wp2_with (first | ((with_reducible refine gate_callee (f := 35) rfl ?_); refine goesL_ (some 21) rfl rfl Try.func35 (by kernel_rfl) rfl #[.int .u64 a0, .int .u64 a0] rfl (by (try simp only [mA_, mC_, mN_]); first | done | rfl | (simp only [lD_, lT_]; rfl)) ?_; (with_reducible refine (bits_Mul64.calls a0 a0 t102 t103 _ A4.out).mono ?_); rintro e w' ⟨rfl, ⟨nd, rfl⟩⟩; refine ⟨_, rfl, ?_⟩) | ((with_reducible refine gate_callee (f := 35) rfl ?_); refine goesL_ (some 41) rfl rfl Try.func35 (by kernel_rfl) rfl #[.int .u64 t103, .int .u64 a0] rfl (by (try simp only [mA_, mC_, mN_]); first | done | rfl | (simp only [lD_, lT_]; rfl)) ?_; (with_reducible refine (bits_Mul64.calls t103 a0 t104 t105 _ A6.out).mono ?_); rintro e w' ⟨rfl, ⟨nd, rfl⟩⟩; refine ⟨_, rfl, ?_⟩) | ((with_reducible refine gate_callee (f := 35) rfl ?_); refine goesL_ (some 47) rfl rfl Try.func35 (by kernel_rfl) rfl #[.int .u64 t102, .int .u64 a0] rfl (by (try simp only [mA_, mC_, mN_]); first | done | rfl | (simp only [lD_, lT_]; rfl)) ?_; (with_reducible refine (bits_Mul64.calls t102 a0 t106 t107 _ A7.out).mono ?_); rintro e w' ⟨rfl, ⟨nd, rfl⟩⟩; refine ⟨_, rfl, ?_⟩))
     go_ret; exact ⟨by first | rfl | (simp; done) | (simp [*]; done), by repeat (first | exact Drawn0.refl _ | apply Drawn0.step)⟩
   · rw [if_neg c9] at H
     have c9b0 : decide ((IntKind.u64.wrap (t106 + t109)) < (a1 / 4294967296)) = false := decide_eq_false c9; clear c9; (by_cases c10 : (IntKind.u64.wrap (t106 + t109)) = (a1 / 4294967296))
     · rw [if_pos c10] at H
       have c10b0 : ((IntKind.u64.wrap (t106 + t109)) == (a1 / 4294967296)) = true := beq_iff_eq.mpr c10; have c10b1 : ((IntKind.u64.wrap (t106 + t109)) != (a1 / 4294967296)) = false := bne_eq_false_iff_eq.mpr c10; clear c10; (by_cases c11 : t108 < (IntKind.u64.wrap (a1 * 4294967296)))
       · rw [if_pos c11] at H
         have c11b0 : decide (t108 < (IntKind.u64.wrap (a1 * 4294967296))) = true := dT_ c11; clear c11; obtain rfl := oJ_ H; (go_enter Try.func31, Try.ntmps31)
         go_wp2_with (first | ((with_reducible refine gate_callee (f := 35) rfl ?_); refine goesL_ (some 21) rfl rfl Try.func35 (by kernel_rfl) rfl #[.int .u64 a0, .int .u64 a0] rfl (by (try simp only [mA_, mC_, mN_]); first | done | rfl | (simp only [lD_, lT_]; rfl)) ?_; (with_reducible refine (bits_Mul64.calls a0 a0 t102 t103 _ A4.out).mono ?_); rintro e w' ⟨rfl, ⟨nd, rfl⟩⟩; refine ⟨_, rfl, ?_⟩) | ((with_reducible refine gate_callee (f := 35) rfl ?_); refine goesL_ (some 41) rfl rfl Try.func35 (by kernel_rfl) rfl #[.int .u64 t103, .int .u64 a0] rfl (by (try simp only [mA_, mC_, mN_]); first | done | rfl | (simp only [lD_, lT_]; rfl)) ?_; (with_reducible refine (bits_Mul64.calls t103 a0 t104 t105 _ A6.out).mono ?_); rintro e w' ⟨rfl, ⟨nd, rfl⟩⟩; refine ⟨_, rfl, ?_⟩) | ((with_reducible refine gate_callee (f := 35) rfl ?_); refine goesL_ (some 47) rfl rfl Try.func35 (by kernel_rfl) rfl #[.int .u64 t102, .int .u64 a0] rfl (by (try simp only [mA_, mC_, mN_]); first | done | rfl | (simp only [lD_, lT_]; rfl)) ?_; (with_reducible refine (bits_Mul64.calls t102 a0 t106 t107 _ A7.out).mono ?_); rintro e w' ⟨rfl, ⟨nd, rfl⟩⟩; refine ⟨_, rfl, ?_⟩))
         go_ret; exact ⟨by first | rfl | (simp; done) | (simp [*]; done), by repeat (first | exact Drawn0.refl _ | apply Drawn0.step)⟩
       · rw [if_neg c11] at H
         have c11b0 : decide (t108 < (IntKind.u64.wrap (a1 * 4294967296))) = false := decide_eq_false c11; clear c11; (by_cases c12 : t108 = (IntKind.u64.wrap (a1 * 4294967296)))
         · rw [if_pos c12] at H
           have c12b0 : (t108 == (IntKind.u64.wrap (a1 * 4294967296))) = true := beq_iff_eq.mpr c12; have c12b1 : (t108 != (IntKind.u64.wrap (a1 * 4294967296))) = false := bne_eq_false_iff_eq.mpr c12; clear c12; obtain rfl := oJ_ H; (go_enter Try.func31, Try.ntmps31)
           go_wp2_with (first | ((with_reducible refine gate_callee (f := 35) rfl ?_); refine goesL_ (some 21) rfl rfl Try.func35 (by kernel_rfl) rfl #[.int .u64 a0, .int .u64 a0] rfl (by (try simp only [mA_, mC_, mN_]); first | done | rfl | (simp only [lD_, lT_]; rfl)) ?_; (with_reducible refine (bits_Mul64.calls a0 a0 t102 t103 _ A4.out).mono ?_); rintro e w' ⟨rfl, ⟨nd, rfl⟩⟩; refine ⟨_, rfl, ?_⟩) | ((with_reducible refine gate_callee (f := 35) rfl ?_); refine goesL_ (some 41) rfl rfl Try.func35 (by kernel_rfl) rfl #[.int .u64 t103, .int .u64 a0] rfl (by (try simp only [mA_, mC_, mN_]); first | done | rfl | (simp only [lD_, lT_]; rfl)) ?_; (with_reducible refine (bits_Mul64.calls t103 a0 t104 t105 _ A6.out).mono ?_); rintro e w' ⟨rfl, ⟨nd, rfl⟩⟩; refine ⟨_, rfl, ?_⟩) | ((with_reducible refine gate_callee (f := 35) rfl ?_); refine goesL_ (some 47) rfl rfl Try.func35 (by kernel_rfl) rfl #[.int .u64 t102, .int .u64 a0] rfl (by (try simp only [mA_, mC_, mN_]); first | done | rfl | (simp only [lD_, lT_]; rfl)) ?_; (with_reducible refine (bits_Mul64.calls t102 a0 t106 t107 _ A7.out).mono ?_); rintro e w' ⟨rfl, ⟨nd, rfl⟩⟩; refine ⟨_, rfl, ?_⟩))
           go_ret; exact ⟨by first | rfl | (simp; done) | (simp [*]; done), by repeat (first | exact Drawn0.refl _ | apply Drawn0.step)⟩
         · rw [if_neg c12] at H
           have c12b0 : (t108 == (IntKind.u64.wrap (a1 * 4294967296))) = false := beq_eq_false_iff_ne.mpr c12; have c12b1 : (t108 != (IntKind.u64.wrap (a1 * 4294967296))) = true := bne_iff_ne.mpr c12; obtain rfl := oJ_ H; (go_enter Try.func31, Try.ntmps31)
           go_wp2_with (first | ((with_reducible refine gate_callee (f := 35) rfl ?_); refine goesL_ (some 21) rfl rfl Try.func35 (by kernel_rfl) rfl #[.int .u64 a0, .int .u64 a0] rfl (by (try simp only [mA_, mC_, mN_]); first | done | rfl | (simp only [lD_, lT_]; rfl)) ?_; (with_reducible refine (bits_Mul64.calls a0 a0 t102 t103 _ A4.out).mono ?_); rintro e w' ⟨rfl, ⟨nd, rfl⟩⟩; refine ⟨_, rfl, ?_⟩) | ((with_reducible refine gate_callee (f := 35) rfl ?_); refine goesL_ (some 41) rfl rfl Try.func35 (by kernel_rfl) rfl #[.int .u64 t103, .int .u64 a0] rfl (by (try simp only [mA_, mC_, mN_]); first | done | rfl | (simp only [lD_, lT_]; rfl)) ?_; (with_reducible refine (bits_Mul64.calls t103 a0 t104 t105 _ A6.out).mono ?_); rintro e w' ⟨rfl, ⟨nd, rfl⟩⟩; refine ⟨_, rfl, ?_⟩) | ((with_reducible refine gate_callee (f := 35) rfl ?_); refine goesL_ (some 47) rfl rfl Try.func35 (by kernel_rfl) rfl #[.int .u64 t102, .int .u64 a0] rfl (by (try simp only [mA_, mC_, mN_]); first | done | rfl | (simp only [lD_, lT_]; rfl)) ?_; (with_reducible refine (bits_Mul64.calls t102 a0 t106 t107 _ A7.out).mono ?_); rintro e w' ⟨rfl, ⟨nd, rfl⟩⟩; refine ⟨_, rfl, ?_⟩))
           go_ret; exact ⟨by first | rfl | (simp; done) | (simp [*]; done), by repeat (first | exact Drawn0.refl _ | apply Drawn0.step)⟩
     · rw [if_neg c10] at H
       have c10b0 : ((IntKind.u64.wrap (t106 + t109)) == (a1 / 4294967296)) = false := beq_eq_false_iff_ne.mpr c10; have c10b1 : ((IntKind.u64.wrap (t106 + t109)) != (a1 / 4294967296)) = true := bne_iff_ne.mpr c10; obtain rfl := oJ_ H; (go_enter Try.func31, Try.ntmps31)
       go_wp2_with (first | ((with_reducible refine gate_callee (f := 35) rfl ?_); refine goesL_ (some 21) rfl rfl Try.func35 (by kernel_rfl) rfl #[.int .u64 a0, .int .u64 a0] rfl (by (try simp only [mA_, mC_, mN_]); first | done | rfl | (simp only [lD_, lT_]; rfl)) ?_; (with_reducible refine (bits_Mul64.calls a0 a0 t102 t103 _ A4.out).mono ?_); rintro e w' ⟨rfl, ⟨nd, rfl⟩⟩; refine ⟨_, rfl, ?_⟩) | ((with_reducible refine gate_callee (f := 35) rfl ?_); refine goesL_ (some 41) rfl rfl Try.func35 (by kernel_rfl) rfl #[.int .u64 t103, .int .u64 a0] rfl (by (try simp only [mA_, mC_, mN_]); first | done | rfl | (simp only [lD_, lT_]; rfl)) ?_; (with_reducible refine (bits_Mul64.calls t103 a0 t104 t105 _ A6.out).mono ?_); rintro e w' ⟨rfl, ⟨nd, rfl⟩⟩; refine ⟨_, rfl, ?_⟩) | ((with_reducible refine gate_callee (f := 35) rfl ?_); refine goesL_ (some 47) rfl rfl Try.func35 (by kernel_rfl) rfl #[.int .u64 t102, .int .u64 a0] rfl (by (try simp only [mA_, mC_, mN_]); first | done | rfl | (simp only [lD_, lT_]; rfl)) ?_; (with_reducible refine (bits_Mul64.calls t102 a0 t106 t107 _ A7.out).mono ?_); rintro e w' ⟨rfl, ⟨nd, rfl⟩⟩; refine ⟨_, rfl, ?_⟩))
       go_ret; exact ⟨by first | rfl | (simp; done) | (simp [*]; done), by repeat (first | exact Drawn0.refl _ | apply Drawn0.step)⟩
 (· replace c5 := Bool.eq_false_iff.mpr c5; subst c5; (have H1 : (if t102 < a1 then (some true) else (if t102 = a1 then (some (t103 == 0)) else (some false))) = some r := by rw [if_neg (show ¬ (false = true) by decide)] at H; exact H); clear H; have H := H1; clear H1; (by_cases c13 : t102 < a1); (· rw [if_pos c13] at H; have c13b0 : decide (t102 < a1) = true := dT_ c13; clear c13; obtain rfl := oJ_ H; (go_enter Try.func31, Try.ntmps31); (go_wp2_with (first | ((with_reducible refine gate_callee (f := 35) rfl ?_); refine goesL_ (some 21) rfl rfl Try.func35 (by kernel_rfl) rfl #[.int .u64 a0, .int .u64 a0] rfl (by (try simp only [mA_, mC_, mN_]); first | done | rfl | (simp only [lD_, lT_]; rfl)) ?_; (with_reducible refine (bits_Mul64.calls a0 a0 t102 t103 _ A4.out).mono ?_); rintro e w' ⟨rfl, ⟨nd, rfl⟩⟩; refine ⟨_, rfl, ?_⟩))); go_ret; exact ⟨by first | rfl | (simp; done) | (simp [*]; done), by repeat (first | exact Drawn0.refl _ | apply Drawn0.step)⟩); (· rw [if_neg c13] at H; have c13b0 : decide (t102 < a1) = false := decide_eq_false c13; clear c13; (by_cases c14 : t102 = a1); (· rw [if_pos c14] at H; have c14b0 : (t102 == a1) = true := beq_iff_eq.mpr c14; have c14b1 : (t102 != a1) = false := bne_eq_false_iff_eq.mpr c14; clear c14; obtain rfl := oJ_ H; (go_enter Try.func31, Try.ntmps31); (go_wp2_with (first | ((with_reducible refine gate_callee (f := 35) rfl ?_); refine goesL_ (some 21) rfl rfl Try.func35 (by kernel_rfl) rfl #[.int .u64 a0, .int .u64 a0] rfl (by (try simp only [mA_, mC_, mN_]); first | done | rfl | (simp only [lD_, lT_]; rfl)) ?_; (with_reducible refine (bits_Mul64.calls a0 a0 t102 t103 _ A4.out).mono ?_); rintro e w' ⟨rfl, ⟨nd, rfl⟩⟩; refine ⟨_, rfl, ?_⟩))); go_ret; exact ⟨by first | rfl | (simp; done) | (simp [*]; done), by repeat (first | exact Drawn0.refl _ | apply Drawn0.step)⟩); (· rw [if_neg c14] at H; have c14b0 : (t102 == a1) = false := beq_eq_false_iff_ne.mpr c14; have c14b1 : (t102 != a1) = true := bne_iff_ne.mpr c14; obtain rfl := oJ_ H; (go_enter Try.func31, Try.ntmps31); (go_wp2_with (first | ((with_reducible refine gate_callee (f := 35) rfl ?_); refine goesL_ (some 21) rfl rfl Try.func35 (by kernel_rfl) rfl #[.int .u64 a0, .int .u64 a0] rfl (by (try simp only [mA_, mC_, mN_]); first | done | rfl | (simp only [lD_, lT_]; rfl)) ?_; (with_reducible refine (bits_Mul64.calls a0 a0 t102 t103 _ A4.out).mono ?_); rintro e w' ⟨rfl, ⟨nd, rfl⟩⟩; refine ⟨_, rfl, ?_⟩))); go_ret; exact ⟨by first | rfl | (simp; done) | (simp [*]; done), by repeat (first | exact Drawn0.refl _ | apply Drawn0.step)⟩)))
def sha_root.l0 : Nat → Int → Bool → Int → Int → Option (Int)
  | 0, _, _, _, _ => none
  | k + 1, x0, x1, x5, x6 => if x6 ≥ 0 then (if 0 ≤ x6 then ((sha_less.f (Go.bits .or .u64 x5 (shl .u64 1 x6)) x0 x1).bind fun t102 => (if t102 = true then (sha_root.l0 k x0 x1 (Go.bits .or .u64 x5 (shl .u64 1 x6)) (wrap64 (x6 - 1))) else (sha_root.l0 k x0 x1 x5 (wrap64 (x6 - 1))))) else (none)) else (some ((x5) % 4294967296))
def sha_root.f (k : Nat) (a0 : Int) (a1 : Bool) : Option (Int) := sha_root.l0 k a0 a1 0 37
theorem sha_root.mono_l : ∀ k, (∀ y0 y1 y2 y3, LeO (sha_root.l0 k y0 y1 y2 y3) (sha_root.l0 (k + 1) y0 y1 y2 y3))
  | 0 => fun _ _ _ _ r h => by simp [sha_root.l0] at h
  | k + 1 => by
    have ih0 := sha_root.mono_l k
    · intro y0 y1 y2 y3
      unfold sha_root.l0
      repeat' first
      | (with_reducible exact ih0 _ _ _ _)
      | (with_reducible exact LeO.refl _)
      | (with_reducible exact LeO.none _)
      | (with_reducible refine LeO.ite ?_ ?_)
      | (with_reducible refine LeO.bind ?_ (fun _ => ?_))
      | exact ih0 _ _ _ _
      | exact LeO.none _
      | refine LeO.ite ?_ ?_
      | refine LeO.bind ?_ (fun _ => ?_)
theorem sha_root.mono : ∀ a0 a1 k, LeO (sha_root.f k a0 a1) (sha_root.f (k + 1) a0 a1) := by
 intro a0 a1 k; have ih0 := sha_root.mono_l k; unfold sha_root.f
 repeat' first
     | (with_reducible exact ih0 _ _ _ _)
     | (with_reducible exact LeO.refl _)
     | (with_reducible exact LeO.none _)
     | (with_reducible refine LeO.ite ?_ ?_)
     | (with_reducible refine LeO.bind ?_ (fun _ => ?_))
     | exact ih0 _ _ _ _
     | exact LeO.none _
     | refine LeO.ite ?_ ?_
     | refine LeO.bind ?_ (fun _ => ?_)
theorem sha_root.calls (k : Nat) (a0 : Int) (a1 : Bool) (r : Int) (w : World) (h : sha_root.f k a0 a1 = some r) :
    Calls Try.prog 25 #[.int .u64 a0, .bool a1] w fun e w' => e = .returned (.int .u32 r) ∧ Drawn0 w w' := by
 have H : (sha_root.l0 k a0 a1 0 37) = some r := h; clear h; have H' := aM_ H; clear H; (go_enter Try.func25, Try.ntmps25); go_wp2; (go_loopg [5, 6] k (fun kq v5 v6 w' => ∃ (x5_1 : Int) (x6_1 : Int), v5 = .int .u64 x5_1 ∧ v6 = .int .i64 x6_1 ∧ Aside0 (sha_root.l0 kq a0 a1 x5_1 x6_1 = some r) ∧ Aside0 (kq ≤ k) ∧ Drawn0 w w'))
 case atStart => exact ⟨(0), (37), (by first | rfl | (simp; done) | (simp [*]; done)), (by first | rfl | (simp; done) | (simp [*]; done)), H', ⟨Nat.le_refl _⟩, by repeat (first | exact Drawn0.refl _ | apply Drawn0.step)⟩
 case round =>
  clear H'; (try clear c2); (try clear p2); obtain ⟨x5_1, x6_1, rfl, rfl, HA, HK1, ⟨m1, rfl⟩⟩ := hrel
  cases gk with
  | zero => exact absurd HA.out (by simp [sha_root.l0])
  | succ k1 =>
   have H := HA.out; clear HA; simp only [sha_root.l0] at H; (by_cases c3 : x6_1 ≥ 0)
   · rw [if_pos c3] at H
     have c3b0 : decide (0 ≤ x6_1) = true := dT_ c3; clear c3; (by_cases c4 : 0 ≤ x6_1)
     · rw [if_pos c4] at H
       have c4b0 := eq_true c4; have c4b1 : decide (0 ≤ x6_1) = true := dT_ c4; clear c4; obtain ⟨ji5, hji5⟩ : ∃ j_ : Int, (shl .u64 1 x6_1) = j_ := ⟨_, rfl⟩; (replace H : ((sha_less.f (Go.bits .or .u64 x5_1 (ji5)) a0 a1).bind fun t102 => (if t102 = true then (sha_root.l0 k1 a0 a1 (Go.bits .or .u64 x5_1 (ji5)) (wrap64 (x6_1 - 1))) else (sha_root.l0 k1 a0 a1 x5_1 (wrap64 (x6_1 - 1))))) = some r := by first | (rw [hji5] at H; exact H) | (simp only [hji5] at H ⊢; exact H)); have hji5_ : (IntKind.u64.wrap (1 * 2 ^ min x6_1.toNat 64)) = ji5 := hji5; have hji5z : x6_1 ≤ 64 → (IntKind.u64.wrap (1 * 2 ^ x6_1.toNat)) = ji5 := shl_small hji5; (have hji5u : (IntKind.u64.wrap (2 ^ min x6_1.toNat 64)) = ji5 := by have h_ := hji5_; rw [Int.one_mul] at h_; exact h_); (have hji5v : x6_1 ≤ 64 → (IntKind.u64.wrap (2 ^ x6_1.toNat)) = ji5 := fun hle_ => by have h_ := hji5z hle_; rw [Int.one_mul] at h_; exact h_); replace H := Option.bind_eq_some_iff.mp H; obtain ⟨t102, A60, H⟩ := H; replace H : (if t102 = true then (sha_root.l0 k1 a0 a1 (Go.bits .or .u64 x5_1 (ji5)) (wrap64 (x6_1 - 1))) else (sha_root.l0 k1 a0 a1 x5_1 (wrap64 (x6_1 - 1)))) = some r := H; have A6 := aM_ A60; clear A60; (by_cases c7 : t102 = true)
       · subst c7
         (have H1 : (sha_root.l0 k1 a0 a1 (Go.bits .or .u64 x5_1 (ji5)) (wrap64 (x6_1 - 1))) = some r := by rw [if_pos rfl] at H; exact H); clear H; have H := H1; clear H1; have H' := aM_ H; clear H; (go_wp2_with (first | ((with_reducible refine gate_callee (f := 31) rfl ?_); refine goesL_ (some 19) rfl rfl Try.func31 (by kernel_rfl) rfl #[.int .u64 (Go.bits .or .u64 x5_1 (ji5)), .int .u64 a0, .bool a1] rfl (by (try simp only [mA_, mC_, mN_]); first | done | (simp only [hji5]; rfl) | rfl | (simp only [lD_, lT_]; rfl)) ?_; (with_reducible refine (sha_less.calls (Go.bits .or .u64 x5_1 (ji5)) a0 a1 true _ A6.out).mono ?_); rintro e w' ⟨rfl, ⟨nd, rfl⟩⟩; refine ⟨_, rfl, ?_⟩))); (go_roundg k1)
         case measure => have := HK1.out; omega
         case rel => exact ⟨(Go.bits .or .u64 x5_1 (ji5)), (wrap64 (x6_1 - 1)), (by first | rfl | (simp; done) | (simp only [← hji5] <;> (first | rfl | simp)) | (simp [*]; done)), (by first | rfl | (simp; done) | (simp [*]; done)), H', ⟨by have := HK1.out; omega⟩, by repeat (first | exact Drawn0.refl _ | apply Drawn0.step)⟩
       · replace c7 := Bool.eq_false_iff.mpr c7
         subst c7; (have H1 : (sha_root.l0 k1 a0 a1 x5_1 (wrap64 (x6_1 - 1))) = some r := by rw [if_neg (show ¬ (false = true) by decide)] at H; exact H); clear H; have H := H1; clear H1; have H' := aM_ H; clear H; (go_wp2_with (first | ((with_reducible refine gate_callee (f := 31) rfl ?_); refine goesL_ (some 19) rfl rfl Try.func31 (by kernel_rfl) rfl #[.int .u64 (Go.bits .or .u64 x5_1 (ji5)), .int .u64 a0, .bool a1] rfl (by (try simp only [mA_, mC_, mN_]); first | done | (simp only [hji5]; rfl) | rfl | (simp only [lD_, lT_]; rfl)) ?_; (with_reducible refine (sha_less.calls (Go.bits .or .u64 x5_1 (ji5)) a0 a1 false _ A6.out).mono ?_); rintro e w' ⟨rfl, ⟨nd, rfl⟩⟩; refine ⟨_, rfl, ?_⟩))); (go_roundg k1)
         case measure => have := HK1.out; omega
         case rel => exact ⟨(x5_1), (wrap64 (x6_1 - 1)), (by first | rfl | (simp; done) | (simp [*]; done)), (by first | rfl | (simp; done) | (simp [*]; done)), H', ⟨by have := HK1.out; omega⟩, by repeat (first | exact Drawn0.refl _ | apply Drawn0.step)⟩
     (· rw [if_neg c4] at H; exact absurd H (by simp))
   (· rw [if_neg c3] at H; have c3b0 : decide (0 ≤ x6_1) = false := decide_eq_false c3; clear c3; obtain rfl := oJ_ H; simp only [oI_, pI_] at H; obtain ⟨rfl⟩ := H; go_wp2; go_ret; exact ⟨by first | rfl | (simp; done) | (simp [*]; done), by repeat (first | exact Drawn0.refl _ | apply Drawn0.step)⟩)
end Go.Proofs.Ytdhjhcdeeelmhaa.Fn
