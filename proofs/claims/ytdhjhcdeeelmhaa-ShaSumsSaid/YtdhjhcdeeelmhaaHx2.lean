-- written by a program of this session (hprint.py, over the kit's print) out of the translation
import Derived.Test.YtdhjhcdeeelmhaaHx0
import Derived.Test.YtdhjhcdeeelmhaaHx1
namespace Go.Proofs.Ytdhjhcdeeelmhaa.Fn
open Go.RowKit Go.Proofs.YtdhjhcdeeelmhaaW.PrintWords Go.Proofs.YtdhjhcdeeelmhaaW.PrintLast Go.Proofs.YtdhjhcdeeelmhaaW.PrintMore
attribute [local go_sem] max2_int min2_int max_two min_two max_three min_three max_four min_four   -- for this text's walks alone
set_option linter.unusedVariables false
set_option linter.unusedSimpArgs false

/-! ### sha_Write: function 10 -/
def sha_constants.l0 : Nat → List Int → List Int → Int → Int → Option (List Int)
  | 0, _, _, _, _ => none
  | k + 1, x1, x5, x6, x7 => if x7 < x6 then (if 0 ≤ x7 then (if x7 < (x5.length : Int) then ((sha_root.f k (rd x5 x7) true).bind fun t123 => (if x7 < (x1.length : Int) then (sha_constants.l0 k (x1.set (x7 : Int).toNat t123) x5 x6 (wrap64 (x7 + 1))) else (none))) else (none)) else (none)) else (some x1)
def sha_constants.f (k : Nat)  : Option (List Int) := if 64 ≤ 70368744177664 then ((sha_primes.f k 64).bind fun t119 => (sha_constants.l0 k (List.replicate 64 0) t119 (t119.length : Int) 0)) else (none)
theorem sha_constants.mono_l : ∀ k, (∀ y0 y1 y2 y3, LeO (sha_constants.l0 k y0 y1 y2 y3) (sha_constants.l0 (k + 1) y0 y1 y2 y3))
  | 0 => fun _ _ _ _ r h => by simp [sha_constants.l0] at h
  | k + 1 => by
    have ih0 := sha_constants.mono_l k
    · intro y0 y1 y2 y3
      unfold sha_constants.l0
      repeat' first
      | (with_reducible exact ih0 _ _ _ _)
      | (with_reducible exact sha_primes.mono _ _)
      | (with_reducible exact sha_root.mono _ _ _)
      | (with_reducible exact LeO.refl _)
      | (with_reducible exact LeO.none _)
      | (with_reducible refine LeO.ite ?_ ?_)
      | (with_reducible refine LeO.bind ?_ (fun _ => ?_))
      | exact ih0 _ _ _ _
      | exact sha_primes.mono _ _
      | exact sha_root.mono _ _ _
      | exact LeO.none _
      | refine LeO.ite ?_ ?_
      | refine LeO.bind ?_ (fun _ => ?_)
theorem sha_constants.mono : ∀ k, LeO (sha_constants.f k ) (sha_constants.f (k + 1) ) := by
  intro  k
  have ih0 := sha_constants.mono_l k
  unfold sha_constants.f
  repeat' first
      | (with_reducible exact ih0 _ _ _ _)
      | (with_reducible exact sha_primes.mono _ _)
      | (with_reducible exact sha_root.mono _ _ _)
      | (with_reducible exact LeO.refl _)
      | (with_reducible exact LeO.none _)
      | (with_reducible refine LeO.ite ?_ ?_)
      | (with_reducible refine LeO.bind ?_ (fun _ => ?_))
      | exact ih0 _ _ _ _
      | exact sha_primes.mono _ _
      | exact sha_root.mono _ _ _
      | exact LeO.none _
      | refine LeO.ite ?_ ?_
      | refine LeO.bind ?_ (fun _ => ?_)
/-- The cells of an array of whole numbers. -/
def arr32 (xs : List Int) : Array Value := (xs.map (Value.int .u32)).toArray
theorem arr32_size (xs : List Int) : (arr32 xs).size = xs.length := by simp [arr32]
theorem arr32_set (xs : List Int) (i : Nat) (v : Int) : (arr32 xs).setIfInBounds i (.int .u32 v) = arr32 (xs.set i v) := by simp [arr32, List.map_set]
theorem arr32_one (xs : List Int) : (arr32 xs).all (·.oneCell') = true := by
  rw [Array.all_eq_true_iff_forall_mem]
  intro v hv
  simp [arr32] at hv
  obtain ⟨x, _, rfl⟩ := hv
  rfl
theorem arr32_at (xs : List Int) (i : Nat) (h : i < xs.length) : (arr32 xs)[i]? = some (.int .u32 (rd xs (i : Int))) := by
  simp [arr32, rd, h]
theorem below_setRow' {B g : Nat} {w0 w : World} (hb : Below B w0 w) (hBg : B ≤ g) (cs : Array Value) : Below B w0 (w.setRow g cs) :=
  hb.trans ⟨rfl, rfl, rfl, by simp, fun k hk => setRow_other w g k cs (by omega)⟩
theorem run_loadRow32 {P : Program} (w : World) (g : Nat) (t : TypeId) (xs : List Int) (n : Nat) (hn : xs.length = n) (hg : w.heap[g]? = some (.cells (arr32 xs) t (0, 0))) : (loadCellsFrom ⟨g, 0, none⟩ 0 n #[]).run P w = .ok (arr32 xs) w := by
  have := run_loadCells_list (P := P) w ⟨g, 0, none⟩ (arr32 xs).toList (fun j v hv => by
    have hadd : (⟨g, 0, none⟩ : Addr).add j = ⟨g, j, none⟩ := by unfold Addr.add; split <;> simp_all
    rw [hadd, cell_of_row _ _ j _ t (0, 0) hg]
    simpa using hv)
  simpa [loadCells, arr32_size, hn] using this
theorem run_storeRow32 {P : Program} (w : World) (g : Nat) (t : TypeId) (old : Array Value) (xs : List Int) (hg : w.heap[g]? = some (.cells old t (0, 0))) (ho : old.size = xs.length) : (storeCells ⟨g, 0, none⟩ (arr32 xs).toList 0).run P w = .ok () (w.setRow g (arr32 xs)) :=
  run_storeCells_from (P := P) g t (arr32 xs).toList 0 old w hg (by simp [arr32_size, ho]) (fun v hv => (Array.all_eq_true_iff_forall_mem.1 (arr32_one xs)) v (by simpa using hv))
set_option maxHeartbeats 8000000 in
set_option maxRecDepth 100000 in
theorem sha_constants.calls (k : Nat) (r : List Int) (w : World) (h : sha_constants.f k = some r) :
    Calls Try.prog 21 #[] w fun e w' => r.length = 64 ∧ e = .returned (.agg (arr32 r)) ∧ Below w.heap.size w w' := by
  have HB := Aside0.mk (Below.refl w.heap.size w)
  unfold sha_constants.f at h
  rw [if_pos (by decide)] at h
  replace h := Option.bind_eq_some_iff.mp h
  obtain ⟨t119, A0, h⟩ := h
  have A1 := Aside0.mk A0
  have H' := Aside0.mk h
  clear A0 h
  have h2 : ∀ (Z : Array Value) (w3 : World), Below ((w.alloc (.cells Z 42)).alloc (.cells Z 42)).heap.size ((w.alloc (.cells Z 42)).alloc (.cells Z 42)) w3 →
      w3.heap[w.heap.size]? = some (.cells Z 42 (0, 0)) ∧ w3.heap[w.heap.size + 1]? = some (.cells Z 42 (0, 0)) ∧ Below w.heap.size w w3 ∧ w.heap.size ≤ ((w.alloc (.cells Z 42)).alloc (.cells Z 42)).heap.size := by
    intro Z w3 hb
    have e : (w.alloc (.cells Z 42)).heap.size = w.heap.size + 1 := by simp
    have b1 := blk_new (w.alloc (.cells Z 42)) (.cells Z 42)
    rw [e] at b1
    have hs : w.heap.size ≤ ((w.alloc (.cells Z 42)).alloc (.cells Z 42)).heap.size := by simp; omega
    exact ⟨blk_below (blk_alloc (blk_new w _) _) hb, blk_below b1 hb, (((Below.refl _ _).alloc (Nat.le_refl _) _).alloc (by simp) _).trans (hb.mono hs), hs⟩
  have H2 := Aside0.mk h2
  clear h2
  go_enter Try.func21, Try.ntmps21
  go_wp2_with (go_at_call 24; refine (sha_primes.calls k 64 t119 _ A1.out).mono ?_; rintro e w3 ⟨v3, rfl, ho, hb⟩; have HO := Aside0.mk ho; have HB3 := Aside0.mk hb; clear ho hb; obtain ⟨Ao6, co6, eo6⟩ := Kd.R_slice HO.out; subst eo6)
  go_loopg [6] k (fun kq v6 w' => ∃ (xs : List Int) (cs0 : Array Value) (x6 : Int), v6 = .int .i64 x6 ∧ Aside0 (sha_constants.l0 kq xs t119 (t119.length : Int) x6 = some r) ∧ Aside0 (kq ≤ k) ∧ Aside0 (xs.length = 64) ∧ Aside0 (w'.heap[w.heap.size + 1]? = some (.cells (arr32 xs) 42 (0, 0))) ∧ Aside0 (w'.heap[w.heap.size]? = some (.cells cs0 42 (0, 0)) ∧ cs0.size = 64) ∧ Aside0 (Kd.R (Kd.int .u64) 24 w' w.heap.size (fun _ => True) (.slice Ao6 t119.length co6) t119) ∧ Aside0 (Below w.heap.size w w'))
  case atStart =>
    obtain ⟨b0, b1, b2, b3⟩ := H2.out _ _ HB3.out
    exact ⟨List.replicate 64 0, _, 0, rfl, H', ⟨Nat.le_refl _⟩, ⟨by simp⟩, ⟨b1⟩, ⟨b0, rfl⟩, ⟨Kd.R_lower HO.out b3⟩, ⟨b2⟩⟩
  case round =>
    clear H' H2
    obtain ⟨xs, cs0, x6, rfl, HA, HK1, HL, HX1, HX0, HO_5, HB⟩ := hrel
    cases gk with
    | zero => exact absurd HA.out (by simp [sha_constants.l0])
    | succ k1 =>
      have H := HA.out
      clear HA
      simp only [sha_constants.l0] at H
      by_cases c7 : x6 < (t119.length : Int)
      · rw [if_pos c7] at H
        have c7b0 : decide (x6 < (t119.length : Int)) = true := decide_eq_true c7
        by_cases c8 : 0 ≤ x6
        · rw [if_pos c8, if_pos c7] at H
          replace H := Option.bind_eq_some_iff.mp H
          obtain ⟨t123, A100, H⟩ := H
          have A10 := Aside0.mk A100
          clear A100
          by_cases c11 : x6 < (xs.length : Int)
          · rw [if_pos c11] at H
            have H' := Aside0.mk H
            clear H
            have hi64 : x6 < 64 := by have := HL.out; omega
            have p122 := c8
            have q122 := c7
            obtain ⟨ad122, e122, hx122_0⟩ := Kd.at_int (Kd.R_reads' HO_5.out).2.2 x6 p122 q122
            cases e122
            have hc1 : wr.cell? ⟨w.heap.size + 1, x6.toNat, none⟩ = some (.int .u32 (rd xs (x6.toNat : Int))) := by rw [blk_cell HX1.out]; exact arr32_at xs x6.toNat (by omega)
            have hf1 : wr.frozen? ⟨w.heap.size + 1, x6.toNat, none⟩ = false := blk_frozen HX1.out _
            have LT := Aside0.mk (show x6.toNat < xs.length by omega)
            replace p122 := eq_true p122
            replace q122 := eq_true q122
            have r122 := eq_true hi64
            clear c7 c8 c11 hi64
            go_wp2_with (first | ((with_reducible refine gate_callee (f := 25) rfl ?_); refine goesL_ (some 13) rfl rfl Try.func25 (by kernel_rfl) rfl #[.int .u64 (rd t119 x6), .bool true] rfl (by (try simp only [List.map_toArray, List.map_cons, List.map_nil]); first | done | rfl) ?_; (with_reducible refine (sha_root.calls k1 (rd t119 x6) true t123 _ A10.out).mono ?_); rintro e w' ⟨rfl, ⟨nd, rfl⟩⟩; refine ⟨_, rfl, ?_⟩) | ((with_reducible refine gate_store (t := 39) (p := 14) rfl ?_); refine store_event (t := 39) (p := 14) (v := ?vo_w17) (w1 := ((wr.drewN _).setCell ⟨w.heap.size + 1, x6.toNat, none⟩ (.int .u32 t123))) ?hg ?ho ?hn ?hr ?_; (case ho => rfl); (case hg => rfl); (case hn => rfl); (case hr => first | (go_simp; done) | (go_simp; rfl)); intro w17 hw))
            go_roundg k1
            case measure => have := HK1.out; omega
            case rel => exact ⟨xs.set x6.toNat t123, cs0, wrap64 (x6 + 1), (by first | rfl | (simp; done)), H', ⟨by have := HK1.out; omega⟩, ⟨by rw [List.length_set]; exact HL.out⟩, ⟨blk_put (blk_drewN HX1.out _) _ _ (arr32_set xs _ _)⟩, ⟨blk_far (blk_drewN HX0.out.1 _) (by show w.heap.size ≠ w.heap.size + 1; omega) _, HX0.out.2⟩, ⟨Kd.R_mono (Kd.R_far (p := ⟨w.heap.size + 1, x6.toNat, none⟩) (Kd.R_drewN (Kd.R_types HO_5.out HX1.out (by decide)) _) (fun _ hk => hk.2) _) (fun _ _ => trivial)⟩, ⟨(pw_below_drewN HB.out _).setCell (by show w.heap.size ≤ w.heap.size + 1; omega) _⟩⟩
          · rw [if_neg c11] at H
            exact absurd H (by simp)
        · rw [if_neg c8] at H
          exact absurd H (by simp)
      · rw [if_neg c7] at H
        have c7b0 : decide (x6 < (t119.length : Int)) = false := decide_eq_false c7
        clear c7
        obtain rfl := Option.some.inj H
        have hl1 := Aside0.mk (run_loadVar_row (P := Try.prog) wr (w.heap.size + 1) 42 42 (arr32 xs) (0, 0) _ HX1.out Try.underlying42 rfl (by rw [arr32_size, HL.out]; kernel_rfl))
        have hs1 := Aside0.mk (run_storeVar_row (P := Try.prog) wr w.heap.size 42 42 cs0 (arr32 xs) HX0.out.1 (by rw [arr32_size, HL.out]; kernel_rfl) (by rw [arr32_size, HL.out]; exact HX0.out.2) (arr32_one xs))
        go_upto_region 7 with (fail)
        refine wp_region_lit ?_
        refine Kd.event_run (v := .agg (arr32 xs)) (w1 := wr) rfl (loadRow_run hl1.out rfl) ?_
        refine store_event (w1 := wr.setRow w.heap.size (arr32 xs)) rfl rfl rfl (storeRow_run hs1.out rfl rfl) ?_
        intro w18 hw
        subst hw
        have hblk := setRow_heap wr w.heap.size cs0 (arr32 xs) 42 (0, 0) HX0.out.1
        have HBL := Aside0.mk hblk
        have HB2 := Aside0.mk (below_setRow' HB.out (Nat.le_refl _) (arr32 xs))
        clear hblk
        go_wp2
        refine bodyPost_ret (results_cell_row rfl _ _ w.heap.size 42 (arr32 xs) (0, 0) _ rfl HBL.out Try.underlying42 rfl (by rw [arr32_size, HL.out]; kernel_rfl)) rfl ?_
        exact ⟨HL.out, rfl, HB2.out⟩
/-- What the closure of turn answers. -/
def sha_turn1.f (a b c : Int) (s : Bool) (x : Int) : Option Int := (bits_RotateLeft32.f x (wrap64 (-c))).bind fun l => (bits_RotateLeft32.f x (wrap64 (-a))).bind fun p => (bits_RotateLeft32.f x (wrap64 (-b))).bind fun q => if 0 ≤ c then some (Go.bits .xor .u32 (Go.bits .xor .u32 p q) (if s = true then shr .u32 x c else l)) else none
/-- turn makes four variables and a closure over them. -/
theorem sha_turn.calls (a b c : Int) (s : Bool) (w : World) :
    Calls Try.prog 26 #[.int .i64 a, .int .i64 b, .int .i64 c, .bool s] w fun e w' => e = .returned (.func (.func 32) #[] #[.pointer (some ⟨w.heap.size + 1 + 1, 0, none⟩), .pointer (some ⟨w.heap.size + 1 + 1 + 1, 0, none⟩), .pointer (some ⟨w.heap.size, 0, none⟩), .pointer (some ⟨w.heap.size + 1, 0, none⟩)]) ∧
      w' = (((w.alloc (.cells #[.int .i64 a] 3)).alloc (.cells #[.int .i64 b] 3)).alloc (.cells #[.int .i64 c] 3)).alloc (.cells #[.bool s] 4) := by
  have hmf : ∀ (fn : Fn) (first cap : Array Value) (w : World), (Instr.makeFunc fn first cap).run Try.prog w = .ok (.func fn first cap) w := fun _ _ _ _ => rfl
  go_enter Try.func26, Try.ntmps26
  go_wp2
  go_ret
  exact ⟨rfl, rfl⟩
set_option maxHeartbeats 8000000 in
set_option maxRecDepth 100000 in
theorem sha_turn1.calls (x a b c : Int) (s : Bool) (r : Int) (ga gb gc gs : Nat) (w : World) (ha : w.cell? ⟨ga, 0, none⟩ = some (.int .i64 a)) (hb : w.cell? ⟨gb, 0, none⟩ = some (.int .i64 b)) (hc : w.cell? ⟨gc, 0, none⟩ = some (.int .i64 c)) (hs : w.cell? ⟨gs, 0, none⟩ = some (.bool s)) (h : sha_turn1.f a b c s x = some r) :
    Calls Try.prog 32 #[.int .u32 x, .pointer (some ⟨gc, 0, none⟩), .pointer (some ⟨gs, 0, none⟩), .pointer (some ⟨ga, 0, none⟩), .pointer (some ⟨gb, 0, none⟩)] w fun e w' => e = .returned (.int .u32 r) ∧ Drawn0 w w' := by
  unfold sha_turn1.f at h
  replace h := Option.bind_eq_some_iff.mp h; obtain ⟨tl, hl, h⟩ := h
  replace h := Option.bind_eq_some_iff.mp h; obtain ⟨tp, hp, h⟩ := h
  replace h := Option.bind_eq_some_iff.mp h; obtain ⟨tq, hq, h⟩ := h
  have AL := Aside0.mk hl
  have AP := Aside0.mk hp
  have AQ := Aside0.mk hq
  clear hl hp hq
  by_cases c0 : 0 ≤ c
  case neg => rw [if_neg c0] at h; cases h
  rw [if_pos c0] at h
  have HR := Aside0.mk (Option.some.inj h)
  clear h
  have c0b := eq_true c0
  clear c0
  have AP2 := Aside0.mk (show bits_RotateLeft32.f x (IntKind.i64.wrap (-a)) = some tp by rw [i64_w]; exact AP.out)
  have AQ2 := Aside0.mk (show bits_RotateLeft32.f x (IntKind.i64.wrap (-b)) = some tq by rw [i64_w]; exact AQ.out)
  have hS : ∀ W, Drawn0 w W → (W.cell? ⟨ga, 0, none⟩ = some (.int .i64 a) ∧ W.cell? ⟨gb, 0, none⟩ = some (.int .i64 b) ∧ W.cell? ⟨gc, 0, none⟩ = some (.int .i64 c) ∧ W.cell? ⟨gs, 0, none⟩ = some (.bool s)) := by rintro W ⟨nd, rfl⟩; exact ⟨ha, hb, hc, hs⟩
  have hT : ∀ W W', Drawn0 w W → Drawn0 W W' → Drawn0 w W' := by rintro W W' h1 ⟨m, rfl⟩; exact h1.step m
  have HS := Aside0.mk hS
  have HT := Aside0.mk hT
  clear hS hT
  cases s
  · go_enter Try.func32, Try.ntmps32
    go_upto_region 4 with (go_at_call 33; refine (bits_RotateLeft32.calls x _ tl _ AL.out).mono ?_; rintro e w1 ⟨rfl, hd⟩; obtain ⟨ha1, hb1, hc1, hs1⟩ := HS.out _ hd; have HD := Aside0.mk hd; clear hd)
    refine wp_region_classes (by kernel_rfl) (by kernel_rfl) ?_
    obtain ⟨T, f, hne, hf0, hfS, hfB⟩ := world_class (fun w' => Drawn0 w w') _ (HT.out _ _ HD.out (Drawn0.step (Drawn0.refl _) 1))
    have HF0 := Aside0.mk hf0
    have HST : Aside0 (∀ n w', Drawn0 (f n) w' → ∃ m, w' = f m) := ⟨fun n w' hd => hfB w' (HT.out _ _ (hfS n) hd)⟩
    have q0 := fun n => (HS.out _ (hfS n)).1
    have q1 := fun n => (HS.out _ (hfS n)).2.1
    have HDF := Aside0.mk hfS
    clear hf0 hfS hfB ha1 hb1 hc1 hs1
    refine ⟨T, f, HF0.out, ?_⟩
    go_big_quiet_step (fail)
    go_big_quiet_step (fail)
    go_big_quiet_step (fail)
    go_big_quiet_step ((go_at_call 33; refine (bits_RotateLeft32.calls x _ tp _ AP.out).mono ?_; rintro e w' ⟨rfl, hb⟩; exact ⟨rfl, HST.out _ _ hb⟩))
    go_big_quiet_step (fail)
    go_big_quiet_step (fail)
    go_big_quiet_step (fail)
    go_big_quiet_step ((go_at_call 33; refine (bits_RotateLeft32.calls x _ tq _ AQ.out).mono ?_; rintro e w' ⟨rfl, hb⟩; exact ⟨rfl, HST.out _ _ hb⟩))
    go_big_quiet_step (fail)
    go_big_quiet_step (fail)
    go_big_quiet_step (fail)
    go_big_quiet_step (fail)
    refine wpQuiet_nil ?_
    intro w3 hw'
    obtain ⟨nq, rfl⟩ := hw'
    go_wp2
    go_ret
    exact ⟨by rw [← HR.out]; first | rfl | (simp; done), HDF.out _⟩
  · have hts : ∃ ts : Int, shr .u32 x c = ts := ⟨_, rfl⟩
    obtain ⟨ts, hts⟩ := hts
    have hts_ : (x / 2 ^ min c.toNat 32) = ts := hts
    have htsz : c ≤ 32 → (x / 2 ^ c.toNat) = ts := shr_small hts
    have HTS := Aside0.mk hts
    go_enter Try.func32, Try.ntmps32
    go_upto_region 4 with (go_at_call 33; refine (bits_RotateLeft32.calls x _ tl _ AL.out).mono ?_; rintro e w1 ⟨rfl, hd⟩; obtain ⟨ha1, hb1, hc1, hs1⟩ := HS.out _ hd; have HD := Aside0.mk hd; clear hd)
    refine wp_region_classes (by kernel_rfl) (by kernel_rfl) ?_
    obtain ⟨T, f, hne, hf0, hfS, hfB⟩ := world_class (fun w' => Drawn0 w w') _ (HT.out _ _ HD.out (Drawn0.step (Drawn0.refl _) 1))
    have HF0 := Aside0.mk hf0
    have HST : Aside0 (∀ n w', Drawn0 (f n) w' → ∃ m, w' = f m) := ⟨fun n w' hd => hfB w' (HT.out _ _ (hfS n) hd)⟩
    have q0 := fun n => (HS.out _ (hfS n)).1
    have q1 := fun n => (HS.out _ (hfS n)).2.1
    have HDF := Aside0.mk hfS
    clear hf0 hfS hfB ha1 hb1 hc1 hs1
    refine ⟨T, f, HF0.out, ?_⟩
    go_big_quiet_step (fail)
    go_big_quiet_step (fail)
    go_big_quiet_step (fail)
    go_big_quiet_step ((go_at_call 33; refine (bits_RotateLeft32.calls x _ tp _ AP.out).mono ?_; rintro e w' ⟨rfl, hb⟩; exact ⟨rfl, HST.out _ _ hb⟩))
    go_big_quiet_step (fail)
    go_big_quiet_step (fail)
    go_big_quiet_step (fail)
    go_big_quiet_step ((go_at_call 33; refine (bits_RotateLeft32.calls x _ tq _ AQ.out).mono ?_; rintro e w' ⟨rfl, hb⟩; exact ⟨rfl, HST.out _ _ hb⟩))
    go_big_quiet_step (fail)
    go_big_quiet_step (fail)
    go_big_quiet_step (fail)
    go_big_quiet_step (fail)
    refine wpQuiet_nil ?_
    intro w3 hw'
    obtain ⟨nq, rfl⟩ := hw'
    go_wp2
    go_ret
    exact ⟨by rw [← HR.out, ← HTS.out]; first | rfl | (simp; done), HDF.out _⟩
/-- v turns a word: a closure of turn whose four cells lie behind base. -/
def TurnAt (v : Value) (a b c : Int) (s : Bool) (base : Nat) (W : World) : Prop :=
  ∃ ga gb gc gs : Nat, v = .func (.func 32) #[] #[.pointer (some ⟨gc, 0, none⟩), .pointer (some ⟨gs, 0, none⟩), .pointer (some ⟨ga, 0, none⟩), .pointer (some ⟨gb, 0, none⟩)] ∧
    base ≤ ga ∧ base ≤ gb ∧ base ≤ gc ∧ base ≤ gs ∧ W.cell? ⟨ga, 0, none⟩ = some (.int .i64 a) ∧ W.cell? ⟨gb, 0, none⟩ = some (.int .i64 b) ∧ W.cell? ⟨gc, 0, none⟩ = some (.int .i64 c) ∧ W.cell? ⟨gs, 0, none⟩ = some (.bool s)
theorem TurnAt.below {v : Value} {a b c : Int} {s : Bool} {base : Nat} {W W' : World} (h : TurnAt v a b c s base W) (hb : Below W.heap.size W W') : TurnAt v a b c s base W' := by
  obtain ⟨ga, gb, gc, gs, e, h1, h2, h3, h4, k1, k2, k3, k4⟩ := h
  exact ⟨ga, gb, gc, gs, e, h1, h2, h3, h4, pw_cell_below hb k1, pw_cell_below hb k2, pw_cell_below hb k3, pw_cell_below hb k4⟩
theorem TurnAt.lower {v : Value} {a b c : Int} {s : Bool} {base base' : Nat} {W : World} (h : TurnAt v a b c s base W) (hb : base' ≤ base) : TurnAt v a b c s base' W := by
  obtain ⟨ga, gb, gc, gs, e, h1, h2, h3, h4, hk⟩ := h
  exact ⟨ga, gb, gc, gs, e, by omega, by omega, by omega, by omega, hk⟩
theorem sha_turn_at (a b c : Int) (s : Bool) (w : World) :
    Calls Try.prog 26 #[.int .i64 a, .int .i64 b, .int .i64 c, .bool s] w fun e w' => ∃ v, e = .returned v ∧ TurnAt v a b c s w.heap.size w' ∧ Below w.heap.size w w' := by
  refine (sha_turn.calls a b c s w).mono ?_
  rintro e w' ⟨rfl, rfl⟩
  have s1 : (w.alloc (.cells #[.int .i64 a] 3)).heap.size = w.heap.size + 1 := by simp
  have s2 : ((w.alloc (.cells #[.int .i64 a] 3)).alloc (.cells #[.int .i64 b] 3)).heap.size = w.heap.size + 1 + 1 := by simp
  have s3 : (((w.alloc (.cells #[.int .i64 a] 3)).alloc (.cells #[.int .i64 b] 3)).alloc (.cells #[.int .i64 c] 3)).heap.size = w.heap.size + 1 + 1 + 1 := by simp
  have b1 := blk_new (w.alloc (.cells #[.int .i64 a] 3)) (.cells #[.int .i64 b] 3)
  have b2 := blk_new ((w.alloc (.cells #[.int .i64 a] 3)).alloc (.cells #[.int .i64 b] 3)) (.cells #[.int .i64 c] 3)
  have b3 := blk_new (((w.alloc (.cells #[.int .i64 a] 3)).alloc (.cells #[.int .i64 b] 3)).alloc (.cells #[.int .i64 c] 3)) (.cells #[.bool s] 4)
  rw [s1] at b1; rw [s2] at b2; rw [s3] at b3
  refine ⟨_, rfl, ⟨w.heap.size, w.heap.size + 1, w.heap.size + 1 + 1, w.heap.size + 1 + 1 + 1, rfl, Nat.le_refl _, by omega, by omega, by omega, ?_, ?_, ?_, ?_⟩, ?_⟩
  · exact blk_cell (blk_alloc (blk_alloc (blk_alloc (blk_new w _) _) _) _) 0
  · exact blk_cell (blk_alloc (blk_alloc b1 _) _) 0
  · exact blk_cell (blk_alloc b2 _) 0
  · exact blk_cell b3 0
  · exact ((((Below.refl _ _).alloc (Nat.le_refl _) _).alloc (by rw [s1]; omega) _).alloc (by rw [s2]; omega) _).alloc (by rw [s3]; omega) _
/-- A word turned to the right. -/
def rotR (x l r : Int) : Int := Go.bits .or .u32 (shl .u32 x l) (shr .u32 x r)
def smallW (x : Int) : Int := Go.bits .xor .u32 (Go.bits .xor .u32 (rotR x 25 7) (rotR x 14 18)) (shr .u32 x 3)
def greatW (x : Int) : Int := Go.bits .xor .u32 (Go.bits .xor .u32 (rotR x 15 17) (rotR x 13 19)) (shr .u32 x 10)
def lowW (x : Int) : Int := Go.bits .xor .u32 (Go.bits .xor .u32 (rotR x 30 2) (rotR x 19 13)) (rotR x 10 22)
def highW (x : Int) : Int := Go.bits .xor .u32 (Go.bits .xor .u32 (rotR x 26 6) (rotR x 21 11)) (rotR x 7 25)
theorem rot_eq (x n l r : Int) (h1 : Go.bits .and .u64 (IntKind.u64.wrap (wrap64 (-n))) 31 = l) (h2 : IntKind.u64.wrap (32 - l) = r) (h3 : 0 ≤ l) (h4 : 0 ≤ r) : bits_RotateLeft32.f x (wrap64 (-n)) = some (rotR x l r) := by
  unfold bits_RotateLeft32.f
  rw [h1, h2, if_pos h3, if_pos h4]; rfl
theorem small_eq (x : Int) : sha_turn1.f 7 18 3 true x = some (smallW x) := by
  unfold sha_turn1.f
  rw [rot_eq x 3 29 3 (by decide +kernel) (by decide +kernel) (by decide) (by decide), rot_eq x 7 25 7 (by decide +kernel) (by decide +kernel) (by decide) (by decide), rot_eq x 18 14 18 (by decide +kernel) (by decide +kernel) (by decide) (by decide), Option.bind_some, Option.bind_some, Option.bind_some, if_pos (by decide)]; rfl
theorem great_eq (x : Int) : sha_turn1.f 17 19 10 true x = some (greatW x) := by
  unfold sha_turn1.f
  rw [rot_eq x 10 22 10 (by decide +kernel) (by decide +kernel) (by decide) (by decide), rot_eq x 17 15 17 (by decide +kernel) (by decide +kernel) (by decide) (by decide), rot_eq x 19 13 19 (by decide +kernel) (by decide +kernel) (by decide) (by decide), Option.bind_some, Option.bind_some, Option.bind_some, if_pos (by decide)]; rfl
theorem low_eq (x : Int) : sha_turn1.f 2 13 22 false x = some (lowW x) := by
  unfold sha_turn1.f
  rw [rot_eq x 22 10 22 (by decide +kernel) (by decide +kernel) (by decide) (by decide), rot_eq x 2 30 2 (by decide +kernel) (by decide +kernel) (by decide) (by decide), rot_eq x 13 19 13 (by decide +kernel) (by decide +kernel) (by decide) (by decide), Option.bind_some, Option.bind_some, Option.bind_some, if_pos (by decide)]; rfl
theorem high_eq (x : Int) : sha_turn1.f 6 11 25 false x = some (highW x) := by
  unfold sha_turn1.f
  rw [rot_eq x 25 7 25 (by decide +kernel) (by decide +kernel) (by decide) (by decide), rot_eq x 6 26 6 (by decide +kernel) (by decide +kernel) (by decide) (by decide), rot_eq x 11 21 11 (by decide +kernel) (by decide +kernel) (by decide) (by decide), Option.bind_some, Option.bind_some, Option.bind_some, if_pos (by decide)]; rfl
/-- The next word of a block's row. -/
def nextW (l ws : List Int) (i : Int) : Int :=
  if i < 16 then Go.bits .or .u32 (Go.bits .or .u32 (Go.bits .or .u32 (((rd l (4 * i) % 4294967296) * 16777216) % 4294967296) (((rd l (4 * i + 1) % 4294967296) * 65536) % 4294967296)) (((rd l (4 * i + 2) % 4294967296) * 256) % 4294967296)) (rd l (4 * i + 3) % 4294967296)
  else ((((rd ws (i - 16) + rd ws (i - 7)) % 4294967296 + smallW (rd ws (i - 15))) % 4294967296) + greatW (rd ws (i - 2))) % 4294967296
def schedW (l : List Int) : Nat → List Int
  | 0 => []
  | n + 1 => schedW l n ++ [nextW l (schedW l n) n]
theorem schedW_length (l : List Int) : ∀ n, (schedW l n).length = n
  | 0 => rfl
  | n + 1 => by simp [schedW, schedW_length l n]
def stepV (kk ws v : List Int) (i : Int) : List Int :=
  let t := (((((rd v 7 + highW (rd v 4)) % 4294967296 + Go.bits .or .u32 (Go.bits .and .u32 (rd v 4) (rd v 5)) (Go.bits .andNot .u32 (rd v 6) (rd v 4))) % 4294967296 + rd kk i) % 4294967296) + rd ws i) % 4294967296
  let u := (lowW (rd v 0) + Go.bits .or .u32 (Go.bits .or .u32 (Go.bits .and .u32 (rd v 0) (rd v 1)) (Go.bits .and .u32 (rd v 0) (rd v 2))) (Go.bits .and .u32 (rd v 1) (rd v 2))) % 4294967296
  [(t + u) % 4294967296, rd v 0, rd v 1, rd v 2, (rd v 3 + t) % 4294967296, rd v 4, rd v 5, rd v 6]
def roundsV (h kk ws : List Int) : Nat → List Int
  | 0 => h
  | n + 1 => stepV kk ws (roundsV h kk ws n) n
def sumV (h v : List Int) (i : Nat) : List Int := (List.range 8).map fun j => if j < i then (rd h j + rd v j) % 4294967296 else rd h j
def blockV (h kk l : List Int) : List Int := sumV h (roundsV h kk (schedW l 64) 64) 8
/-- a[i] of a row of words that stands as a value. -/
theorem run_index_row32 (t : TypeId) (n : Nat) (xs : List Int) (i : Nat) (hx : xs.length = n) (hi : i < n) (h : Try.prog.underlying t = some (.array n 39)) (W : World) : (Instr.index t (.agg (arr32 xs)) (.int .i64 (i : Int))).run Try.prog W = .ok (.int .u32 (rd xs (i : Int))) W := by
  have e := arr32_at xs i (by omega)
  have hn : (0 ≤ (i : Int) ∧ (i : Int) < (n : Int)) := by omega
  simp [Instr.index, run_underlying h, asIntOf, hn, e, go_sem]
  intro hh; omega
theorem sched_set (l : List Int) (i : Nat) (hi : i < 64) : (schedW l i ++ List.replicate (64 - i) (0 : Int)).set i (nextW l (schedW l i) i) = schedW l (i + 1) ++ List.replicate (64 - (i + 1)) 0 := by
  rw [List.set_append, if_neg (by rw [schedW_length]; omega), schedW_length, Nat.sub_self, show 64 - i = (64 - (i + 1)) + 1 by omega, List.replicate_succ, List.set_cons_zero, schedW, List.append_assoc]; rfl
theorem quiet_d0 {P : Program} {f : FuncId} {args : Array Value} {w : World} {n : Nat} {v : Value} (h : Calls P f args (w.drewN n) fun e w' => e = .returned v ∧ Drawn0 (w.drewN n) w') : Calls P f args (w.drewN n) fun e w'' => e = .returned v ∧ ∃ m, w'' = w.drewN m :=
  Calls.quiet_of (h.mono fun _ _ ⟨he, hd⟩ => by obtain ⟨m, rfl⟩ := hd; exact ⟨he, m, rfl⟩)
theorem below_row_self {w W : World} {B gh : Nat} {r : Array Value} {t : TypeId} (hg : w.heap[gh]? = some (.cells r t (0, 0))) (hb : Below B w W) : Below B (w.setRow gh r) W :=
  ⟨hb.os, hb.tape, hb.output, by rw [setRow_size]; exact hb.size, fun k hk => by
    by_cases e : k = gh
    · subst e; rw [hb.block k hk, setRow_heap _ _ _ _ _ _ hg, hg]
    · rw [hb.block k hk, setRow_other _ _ _ _ e]⟩
theorem below_row_step {w W : World} {B gh i : Nat} {r0 r1 r2 : Array Value} {t : TypeId} {v : Value} (hg : w.heap[gh]? = some (.cells r0 t (0, 0))) (hb : Below B (w.setRow gh r1) W) (hB : gh < B) (e : r1.setIfInBounds i v = r2) : Below B (w.setRow gh r2) (W.setCell ⟨gh, i, none⟩ v) :=
  ⟨hb.os, hb.tape, hb.output, by rw [setRow_size]; have := hb.size; rw [setRow_size] at this; simpa [World.setCell] using this, fun k hk => by
    by_cases e2 : k = gh
    · subst e2
      rw [setRow_heap _ _ _ _ _ _ hg]
      exact blk_put ((hb.block k hk).trans (setRow_heap _ _ _ _ _ _ hg)) _ _ e
    · rw [Below.heap_setCell _ _ _ _ e2, hb.block k hk, setRow_other _ _ _ _ e2, setRow_other _ _ _ _ e2]⟩
theorem sumV_length (h v : List Int) (i : Nat) : (sumV h v i).length = 8 := by simp [sumV]
theorem sumV_get (h v : List Int) (i j : Nat) (hj : j < 8) : (sumV h v i)[j]? = some (if j < i then (rd h j + rd v j) % 4294967296 else rd h j) := by
  simp [sumV, hj]
theorem sumV_zero (h v : List Int) (hh : h.length = 8) : sumV h v 0 = h := by
  apply List.ext_getElem?; intro j
  by_cases hj : j < 8
  · rw [sumV_get h v 0 j hj, if_neg (by omega)]
    rw [List.getElem?_eq_getElem (by omega)]
    simp [rd, hh, hj]
  · rw [List.getElem?_eq_none (by rw [sumV_length]; omega), List.getElem?_eq_none (by omega)]
theorem sumV_set (h v : List Int) (i : Nat) (x y : Int) (hi : i < 8) (hx : rd (sumV h v i) (i : Int) = x) (hy : rd v (i : Int) = y) : (sumV h v i).set i ((x + y) % 4294967296) = sumV h v (i + 1) := by
  have hx2 : x = rd h (i : Int) := by
    have h1 := sumV_get h v i i hi
    rw [if_neg (by omega)] at h1
    rw [← hx]
    show (sumV h v i).getD _ _ = _
    simp [List.getD_eq_getElem?_getD, h1]
  apply List.ext_getElem?; intro j
  by_cases hj : j < 8
  · rw [List.getElem?_set, sumV_length, sumV_get h v _ j hj, sumV_get h v _ j hj]
    by_cases e : i = j
    · subst e; rw [if_pos rfl, if_pos hj, if_pos (by omega), hx2, hy]
    · rw [if_neg e]; congr 1
      by_cases e2 : j < i
      · rw [if_pos e2, if_pos (by omega)]
      · rw [if_neg e2, if_neg (by omega)]
  · rw [List.getElem?_eq_none (by rw [List.length_set, sumV_length]; omega), List.getElem?_eq_none (by rw [sumV_length]; omega)]
theorem rd_sched (l : List Int) (i : Nat) (j : Int) (h0 : 0 ≤ j) (h1 : j < i) : rd (schedW l i ++ List.replicate (64 - i) (0 : Int)) (j.toNat : Int) = rd (schedW l i) j := by
  unfold rd
  rw [Int.toNat_natCast, List.getD_eq_getElem?_getD, List.getD_eq_getElem?_getD, List.getElem?_append_left (by rw [schedW_length]; omega)]
theorem stepV_length (kk ws v : List Int) (i : Int) : (stepV kk ws v i).length = 8 := rfl
theorem roundsV_length (h kk ws : List Int) (hh : h.length = 8) : ∀ n, (roundsV h kk ws n).length = 8
  | 0 => hh
  | _ + 1 => rfl
set_option maxHeartbeats 8000000 in
set_option maxRecDepth 100000 in
theorem sha_block.calls (gh gk : Nat) (h kk : List Int) (A : Option Addr) (c : Nat) (l : List Int) (w : World) (hh : w.heap[gh]? = some (.cells (arr32 h) 41 (0, 0))) (hk : w.heap[gk]? = some (.cells (arr32 kk) 42 (0, 0))) (lh : h.length = 8) (lk : kk.length = 64) (hb : Kd.C (Kd.int .u8) w A l.length l) (hl : l.length = 64) (hc : l.length ≤ c) :
    Calls Try.prog 22 #[.pointer (some ⟨gh, 0, none⟩), .pointer (some ⟨gk, 0, none⟩), .slice A l.length c] w fun e w' => e = .returned (.tuple #[]) ∧ Below w.heap.size (w.setRow gh (arr32 (blockV h kk l))) w' := by
  have HH := Aside0.mk hh
  have HK := Aside0.mk hk
  have HBL := Aside0.mk hb
  have LH := Aside0.mk lh
  have LK := Aside0.mk lk
  have LL := Aside0.mk hl
  clear hh hk hb lh lk hl hc
  go_enter Try.func22, Try.ntmps22
  go_upto_region 2 with (first
    | (go_at_call 26; refine (sha_turn_at 7 18 3 true _).mono ?_; rintro e w1 ⟨vs, rfl, hts, hb1⟩)
    | (go_at_call 26; refine (sha_turn_at 17 19 10 true _).mono ?_; rintro e w2 ⟨vg, rfl, htg, hb2⟩)
    | (go_at_call 26; refine (sha_turn_at 2 13 22 false _).mono ?_; rintro e w3 ⟨vl, rfl, htl, hb3⟩)
    | (go_at_call 26; refine (sha_turn_at 6 11 25 false _).mono ?_; rintro e w4 ⟨vh, rfl, hth, hb4⟩))
  have hb12 := below_step hb1 hb2
  have hb13 := below_step hb12 hb3
  have HB4 := Aside0.mk (below_step hb13 hb4)
  have HTS := Aside0.mk (((hts.below hb2).below hb3).below hb4)
  have HTG := Aside0.mk (((htg.lower hb1.size).below hb3).below hb4)
  have HTL := Aside0.mk ((htl.lower hb12.size).below hb4)
  have HTH := Aside0.mk (hth.lower hb13.size)
  clear hts htg htl hth hb1 hb2 hb3 hb4 hb12 hb13
  go_upto_region 3 with (fail)
  have hx5 := blk_new w4 (.cells (arr32 (List.replicate 64 0)) 42)
  have HB5 := Aside0.mk ((Below.refl w4.heap.size w4).alloc (Nat.le_refl _) (.cells (arr32 (List.replicate 64 0)) 42))
  have HX5 : Aside0 ((w4.alloc (.cells (arr32 (List.replicate 64 0)) 42)).heap[w4.heap.size]? = some (.cells (arr32 (schedW l 0 ++ List.replicate (64 - 0) 0)) 42 (0, 0))) := ⟨hx5⟩
  clear hx5
  change Code.wp _ _ _ _ (w4.alloc (.cells (arr32 (List.replicate 64 0)) 42))
  generalize w4.alloc (.cells (arr32 (List.replicate 64 0)) 42) = w5 at HB5 HX5 ⊢
  go_wp2
  go_loopg [22] 64 (fun g v22 w' => ∃ i : Nat, v22 = .int .i64 i ∧ Aside0 (i + g = 64) ∧ Aside0 (w'.heap[w4.heap.size]? = some (.cells (arr32 (schedW l i ++ List.replicate (64 - i) 0)) 42 (0, 0))) ∧ Aside0 (Below w4.heap.size w4 w'))
  case atStart => exact ⟨0, rfl, ⟨rfl⟩, HX5, HB5⟩
  case round =>
    obtain ⟨i, rfl, HIG, HX, HB⟩ := hrel
    clear HX5 HB5
    cases gk with
    | zero =>
      obtain ⟨wo, hwo⟩ : ∃ wo, wo = wr := ⟨_, rfl⟩
      subst hwo
      have hi : i = 64 := by have := HIG.out; omega
      subst hi
      have hi2 : decide (((64 : Nat) : Int) < 64) = false := rfl
      have HX2 : Aside0 (wo.heap[w4.heap.size]? = some (.cells (arr32 (schedW l 64)) 42 (0, 0))) := ⟨by have h := HX.out; rw [Nat.sub_self, List.replicate_zero, List.append_nil] at h; exact h⟩
      clear HX HIG
      have hbw := below_step HB4.out HB.out
      have HHr : Aside0 (wo.heap[gh]? = some (.cells (arr32 h) 41 (0, 0))) := ⟨blk_below HH.out hbw⟩
      have HKr : Aside0 (wo.heap[gk]? = some (.cells (arr32 kk) 42 (0, 0))) := ⟨blk_below HK.out hbw⟩
      have HL1 := Aside0.mk (run_loadVar_row (P := Try.prog) wo gh 41 41 (arr32 h) (0, 0) _ HHr.out Try.underlying41 rfl (by rw [arr32_size, LH.out]; kernel_rfl))
      clear hbw
      go_upto_region 10 with (fail)
      refine wp_region_lit ?_
      refine Kd.event_run (v := .pointer (some ⟨gh, 0, none⟩)) (w1 := wo) rfl rfl ?_
      refine Kd.event_run (v := .pointer (some ⟨gh, 0, none⟩)) (w1 := wo) rfl rfl ?_
      refine Kd.event_run (v := .agg (arr32 h)) (w1 := wo) rfl (loadRow_run HL1.out rfl) ?_
      refine Kd.event_run (v := .pointer (some ⟨wo.heap.size, 0, none⟩)) (w1 := wo.alloc (.cells (arr32 (List.replicate 8 0)) 41)) rfl rfl ?_
      have hz := blk_new wo (.cells (arr32 (List.replicate 8 0)) 41)
      have HS1 := Aside0.mk (run_storeVar_row (P := Try.prog) (wo.alloc (.cells (arr32 (List.replicate 8 0)) 41)) wo.heap.size 41 41 (arr32 (List.replicate 8 0)) (arr32 h) hz (by rw [arr32_size, LH.out]; kernel_rfl) (by rw [arr32_size, arr32_size, LH.out]; rfl) (arr32_one h))
      refine store_event (w1 := (wo.alloc (.cells (arr32 (List.replicate 8 0)) 41)).setRow wo.heap.size (arr32 h)) rfl rfl rfl (storeRow_run HS1.out rfl rfl) ?_
      intro w6 hw
      have HV6 : Aside0 (w6.heap[wo.heap.size]? = some (.cells (arr32 h) 41 (0, 0))) := ⟨by subst hw; exact setRow_heap _ _ _ _ _ _ hz⟩
      have HB6 : Aside0 (Below wo.heap.size wo w6) := ⟨by subst hw; exact below_setRow' ((Below.refl _ _).alloc (Nat.le_refl _) _) (Nat.le_refl _) _⟩
      have HX6 : Aside0 (w6.heap[w4.heap.size]? = some (.cells (arr32 (schedW l 64)) 42 (0, 0))) := ⟨blk_below HX2.out HB6.out⟩
      have HL2 := Aside0.mk (run_loadVar_row (P := Try.prog) w6 w4.heap.size 42 42 (arr32 (schedW l 64)) (0, 0) _ HX6.out Try.underlying42 rfl (by rw [arr32_size, schedW_length]; kernel_rfl))
      clear hw hz HS1 HL1 HX2
      go_upto_region 11 with (fail)
      refine wp_region_lit ?_
      refine Kd.event_run (v := .agg (arr32 (schedW l 64))) (w1 := w6) rfl (loadRow_run HL2.out rfl) ?_
      refine Kd.event_run (v := .int .i64 0) (w1 := w6) rfl rfl ?_
      go_wp2
      simp only [Act.put, List.setIfInBounds_toArray, List.set_cons_zero, List.set_cons_succ]
      go_loopg [92] 64 (fun g v92 w' => ∃ i : Nat, v92 = .int .i64 i ∧ Aside0 (i + g = 64) ∧ Aside0 (w'.heap[wo.heap.size]? = some (.cells (arr32 (roundsV h kk (schedW l 64) i)) 41 (0, 0))) ∧ Aside0 (Below wo.heap.size wo w'))
      case atStart => exact ⟨0, rfl, ⟨rfl⟩, HV6, HB6⟩
      case round =>
        obtain ⟨i, rfl, HIG, HV, HBo⟩ := hrel
        clear HV6 HB6 HX6 HL2
        cases gk with
        | zero =>
          have hi : i = 64 := by have := HIG.out; omega
          subst hi
          have hi2 : decide (((64 : Nat) : Int) < 64) = false := rfl
          obtain ⟨V, hV⟩ : ∃ V, roundsV h kk (schedW l 64) 64 = V := ⟨_, rfl⟩
          have LV := Aside0.mk (show V.length = 8 by rw [← hV]; exact roundsV_length _ _ _ LH.out 64)
          have HV' := HV.out
          rw [hV] at HV'
          have HVV := Aside0.mk hV
          have HVR := Aside0.mk HV'
          have HBW := Aside0.mk (below_row_self HH.out (below_step (below_step HB4.out HB.out) HBo.out))
          have hgl : gh < w.heap.size := blk_lt HH.out
          have HGL := Aside0.mk hgl
          have HGW := Aside0.mk (show w.heap.size ≤ wo.heap.size from (below_step HB4.out HB.out).size)
          clear hV HV' HIG HBo HV hgl
          go_wp2
          go_loopg [166] 8 (fun g v166 w' => ∃ i : Nat, v166 = .int .i64 i ∧ Aside0 (i + g = 8) ∧ Aside0 (w'.heap[wo.heap.size]? = some (.cells (arr32 V) 41 (0, 0))) ∧ Aside0 (Below w.heap.size (w.setRow gh (arr32 (sumV h V i))) w'))
          case atStart => exact ⟨0, rfl, ⟨rfl⟩, HVR, ⟨by rw [sumV_zero h V LH.out]; exact HBW.out⟩⟩
          case round =>
            obtain ⟨i, rfl, HIG, HV, HBo⟩ := hrel
            clear HVR HBW
            cases gk with
            | zero =>
              have hi : i = 8 := by have := HIG.out; omega
              subst hi
              have hi3 : decide (((8 : Nat) : Int) < 8) = false := rfl
              go_wp2
              go_end0
              refine ⟨rfl, ?_⟩
              have := HBo.out
              rw [← HVV.out] at this
              exact this
            | succ g2 =>
              have HI := Aside0.mk (show i < 8 by have := HIG.out; omega)
              have hi3 : decide ((i : Int) < 8) = true := decide_eq_true (by have := HI.out; omega)
              have hgr := HBo.out.block gh HGL.out
              rw [setRow_heap _ _ _ (arr32 (sumV h V i)) _ _ HH.out] at hgr
              have HGR := Aside0.mk hgr
              have hc1 := (blk_cell hgr i).trans (arr32_at (sumV h V i) i (by rw [sumV_length]; exact HI.out))
              have hf1 : wr.frozen? ⟨gh, i, none⟩ = false := blk_frozen hgr _
              have hc2 := (blk_cell HV.out i).trans (arr32_at V i (by rw [LV.out]; exact HI.out))
              obtain ⟨x, hx⟩ : ∃ x : Int, rd (sumV h V i) (i : Int) = x := ⟨_, rfl⟩
              obtain ⟨y, hy⟩ : ∃ x : Int, rd V (i : Int) = x := ⟨_, rfl⟩
              rw [hx] at hc1; rw [hy] at hc2
              have HXY := Aside0.mk (And.intro hx hy)
              have hi4 := eq_true (show (i : Int) < 8 by have := HI.out; omega)
              clear hgr hx hy
              go_upto_region 21 with (fail)
              go_region
              go_wp2
              go_roundg g2
              case measure => omega
              case rel =>
                refine ⟨i + 1, ?_, ⟨by have := HIG.out; omega⟩, ⟨?_⟩, ⟨?_⟩⟩
                · have := HI.out; first | rfl | (congr 1; unfold wrap64; omega) | (simp; unfold wrap64; omega)
                · exact blk_drew (blk_far HV.out (by show wo.heap.size ≠ gh; have := HGL.out; have := HGW.out; omega) _)
                · exact (below_row_step HH.out HBo.out HGL.out ((arr32_set _ _ _).trans (congrArg arr32 (sumV_set h V i x y HI.out HXY.out.1 HXY.out.2)))).drew
        | succ g1 =>
          have hi := HIG.out
          have hi2 : decide ((i : Int) < 64) = true := decide_eq_true (by omega)
          have hix := fun W => run_index_row32 42 64 (schedW l 64) i (schedW_length l 64) (by omega) Try.underlying42 W
          have HI := Aside0.mk (show i < 64 by omega)
          clear hi
          have hlv : (roundsV h kk (schedW l 64) i).length = 8 := roundsV_length _ _ _ LH.out i
          obtain ⟨V, hV⟩ : ∃ V, roundsV h kk (schedW l 64) i = V := ⟨_, rfl⟩
          have HVr := HV.out
          rw [hV] at HVr hlv
          have HVV := Aside0.mk hV
          clear hV
          have hcv := fun j (hj : j < 8) => (blk_cell HVr j).trans (arr32_at V j (by omega))
          have hck := (blk_cell (blk_below (HKr.out) HBo.out) i).trans (arr32_at kk i (by rw [LK.out]; exact HI.out))
          obtain ⟨x, hx⟩ : ∃ x : Int, rd (schedW l 64) (i : Int) = x := ⟨_, rfl⟩
          rw [hx] at hix
          obtain ⟨kv, hkv⟩ : ∃ x : Int, rd kk (i : Int) = x := ⟨_, rfl⟩
          rw [hkv] at hck
          obtain ⟨v0, hv0⟩ : ∃ x : Int, rd V ((0 : Nat) : Int) = x := ⟨_, rfl⟩
          obtain ⟨v1, hv1⟩ : ∃ x : Int, rd V ((1 : Nat) : Int) = x := ⟨_, rfl⟩
          obtain ⟨v2, hv2⟩ : ∃ x : Int, rd V ((2 : Nat) : Int) = x := ⟨_, rfl⟩
          obtain ⟨v3, hv3⟩ : ∃ x : Int, rd V ((3 : Nat) : Int) = x := ⟨_, rfl⟩
          obtain ⟨v4, hv4⟩ : ∃ x : Int, rd V ((4 : Nat) : Int) = x := ⟨_, rfl⟩
          obtain ⟨v5, hv5⟩ : ∃ x : Int, rd V ((5 : Nat) : Int) = x := ⟨_, rfl⟩
          obtain ⟨v6, hv6⟩ : ∃ x : Int, rd V ((6 : Nat) : Int) = x := ⟨_, rfl⟩
          obtain ⟨v7, hv7⟩ : ∃ x : Int, rd V ((7 : Nat) : Int) = x := ⟨_, rfl⟩
          have c0 := hcv 0 (by decide)
          have c1 := hcv 1 (by decide)
          have c2 := hcv 2 (by decide)
          have c3 := hcv 3 (by decide)
          have c4 := hcv 4 (by decide)
          have c5 := hcv 5 (by decide)
          have c6 := hcv 6 (by decide)
          have c7 := hcv 7 (by decide)
          rw [hv0] at c0; rw [hv1] at c1; rw [hv2] at c2; rw [hv3] at c3; rw [hv4] at c4; rw [hv5] at c5; rw [hv6] at c6; rw [hv7] at c7
          have HE := Aside0.mk (show stepV kk (schedW l 64) V i = [((((((v7 + highW v4) % 4294967296 + Go.bits .or .u32 (Go.bits .and .u32 v4 v5) (Go.bits .andNot .u32 v6 v4)) % 4294967296 + kv) % 4294967296) + x) % 4294967296 + (lowW v0 + Go.bits .or .u32 (Go.bits .or .u32 (Go.bits .and .u32 v0 v1) (Go.bits .and .u32 v0 v2)) (Go.bits .and .u32 v1 v2)) % 4294967296) % 4294967296, v0, v1, v2, (v3 + (((((v7 + highW v4) % 4294967296 + Go.bits .or .u32 (Go.bits .and .u32 v4 v5) (Go.bits .andNot .u32 v6 v4)) % 4294967296 + kv) % 4294967296) + x) % 4294967296) % 4294967296, v4, v5, v6] from by
            rw [← hv0, ← hv1, ← hv2, ← hv3, ← hv4, ← hv5, ← hv6, ← hv7, ← hkv, ← hx]; rfl)
          have hi3 := eq_true (show (i : Int) < 64 by have := HI.out; omega)
          have HLV := Aside0.mk hlv
          have HVR := Aside0.mk HVr
          obtain ⟨ga, gb, gc, gs, rfl, _, _, _, _, k1, k2, k3, k4⟩ := (HTH.out.below HB.out).below HBo.out
          obtain ⟨hv, hhv⟩ : ∃ y : Int, highW v4 = y := ⟨_, rfl⟩
          have HCL := Aside0.mk (fun n => sha_turn1.calls v4 6 11 25 false hv ga gb gc gs (wr.drewN n) k1 k2 k3 k4 (by rw [← hhv]; exact high_eq v4))
          rw [hhv] at HE
          clear hx hkv hv0 hv1 hv2 hv3 hv4 hv5 hv6 hv7 hcv hlv HVr hhv k1 k2 k3 k4
          go_upto_region 14 with (fail)
          go_quiet ((go_at_call 32; exact quiet_d0 (HCL.out _)))
          obtain ⟨t, ht⟩ : ∃ t : Int, ((v7 + hv + Go.bits .or .u32 (Go.bits .and .u32 v4 v5) (Go.bits .andNot .u32 v6 v4) + kv) % 4294967296 + x) % 4294967296 = t := ⟨_, rfl⟩
          rw [ht]
          have HT := Aside0.mk ht
          clear ht
          obtain ⟨w7, hw7⟩ : ∃ w7, wr.drewN nq = w7 := ⟨_, rfl⟩
          replace c0 : (wr.drewN nq).cell? ⟨wo.heap.size, 0, none⟩ = some (.int .u32 v0) := c0
          replace c1 : (wr.drewN nq).cell? ⟨wo.heap.size, 1, none⟩ = some (.int .u32 v1) := c1
          replace c2 : (wr.drewN nq).cell? ⟨wo.heap.size, 2, none⟩ = some (.int .u32 v2) := c2
          replace c3 : (wr.drewN nq).cell? ⟨wo.heap.size, 3, none⟩ = some (.int .u32 v3) := c3
          replace c4 : (wr.drewN nq).cell? ⟨wo.heap.size, 4, none⟩ = some (.int .u32 v4) := c4
          replace c5 : (wr.drewN nq).cell? ⟨wo.heap.size, 5, none⟩ = some (.int .u32 v5) := c5
          replace c6 : (wr.drewN nq).cell? ⟨wo.heap.size, 6, none⟩ = some (.int .u32 v6) := c6
          have HVR2 : Aside0 ((wr.drewN nq).heap[wo.heap.size]? = some (.cells (arr32 V) 41 (0, 0))) := ⟨HVR.out⟩
          have HBo2 : Aside0 (Below wo.heap.size wo (wr.drewN nq)) := ⟨pw_below_drewN HBo.out _⟩
          obtain ⟨la, lb, lc, ls, rfl, _, _, _, _, k1, k2, k3, k4⟩ := (HTL.out.below HB.out).below HBo2.out
          rw [hw7] at c0 c1 c2 c3 c4 c5 c6 HVR2 HBo2 k1 k2 k3 k4 ⊢
          clear c7 hck hix hw7 HCL HVR HBo
          obtain ⟨lv, hhv⟩ : ∃ y : Int, lowW v0 = y := ⟨_, rfl⟩
          have HCL := Aside0.mk (fun n => sha_turn1.calls v0 2 13 22 false lv la lb lc ls (w7.drewN n) k1 k2 k3 k4 (by rw [← hhv]; exact low_eq v0))
          rw [hhv] at HE
          clear hhv k1 k2 k3 k4
          go_upto_region 15 with (fail)
          go_quiet ((go_at_call 32; exact quiet_d0 (HCL.out _)))
          obtain ⟨u, hu⟩ : ∃ u : Int, (lv + Go.bits .or .u32 (Go.bits .or .u32 (Go.bits .and .u32 v0 v1) (Go.bits .and .u32 v0 v2)) (Go.bits .and .u32 v1 v2)) % 4294967296 = u := ⟨_, rfl⟩
          rw [hu]
          have HE2 : Aside0 (stepV kk (schedW l 64) V i = [(t + u) % 4294967296, v0, v1, v2, (v3 + t) % 4294967296, v4, v5, v6]) := by
            refine ⟨?_⟩
            rw [HE.out, hu]
            have : (((((v7 + hv) % 4294967296 + Go.bits .or .u32 (Go.bits .and .u32 v4 v5) (Go.bits .andNot .u32 v6 v4)) % 4294967296 + kv) % 4294967296) + x) % 4294967296 = t := by rw [← HT.out]; omega
            rw [this]
          clear hu HE
          have HVR3 : Aside0 ((w7.drewN nq).heap[wo.heap.size]? = some (.cells (arr32 V) 41 (0, 0))) := ⟨HVR2.out⟩
          have HBo3 : Aside0 (Below wo.heap.size wo (w7.drewN nq)) := ⟨pw_below_drewN HBo2.out _⟩
          have HST := Aside0.mk (run_storeVar_row (P := Try.prog) (w7.drewN nq) wo.heap.size 41 41 (arr32 V) (arr32 [(t + u) % 4294967296, v0, v1, v2, (v3 + t) % 4294967296, v4, v5, v6]) HVR3.out (by rw [arr32_size]; kernel_rfl) (by rw [arr32_size, arr32_size, HLV.out]; rfl) (arr32_one _))
          clear HCL HVR2 HBo2
          go_upto_region 16 with (fail)
          go_wp2_with ((with_reducible refine gate_store (t := 41) (p := 12) rfl ?_); refine store_event (t := 41) (p := 12) (v := .tmp 164) (w1 := (w7.drewN nq).setRow wo.heap.size (arr32 [(t + u) % 4294967296, v0, v1, v2, (v3 + t) % 4294967296, v4, v5, v6])) ?hg ?ho ?hn ?hr ?_; (case ho => rfl); (case hg => rfl); (case hn => rfl); (case hr => exact storeRow_run HST.out rfl rfl); intro w8 hw)
          subst hw
          have HX8 := setRow_heap _ wo.heap.size _ (arr32 [(t + u) % 4294967296, v0, v1, v2, (v3 + t) % 4294967296, v4, v5, v6]) _ _ HVR3.out
          rw [← HE2.out] at HX8
          have HX8' := Aside0.mk HX8
          have HB8 := Aside0.mk (below_setRow' HBo3.out (Nat.le_refl _) (arr32 [(t + u) % 4294967296, v0, v1, v2, (v3 + t) % 4294967296, v4, v5, v6]))
          clear HX8
          go_roundg g1
          case measure => omega
          case rel =>
            refine ⟨i + 1, ?_, ⟨by have := HIG.out; omega⟩, ⟨?_⟩, HB8⟩
            · have := HI.out; first | rfl | (congr 1; unfold wrap64; omega) | (simp; unfold wrap64; omega)
            · rw [roundsV, HVV.out, HE2.out]; have := HX8'.out; rw [HE2.out] at this; exact this
    | succ g0 =>
      have hi : i < 64 := by have := HIG.out; omega
      have hi2 : decide ((i : Int) < 64) = true := decide_eq_true (by omega)
      have LSI := Aside0.mk (show (schedW l i ++ List.replicate (64 - i) (0 : Int)).length = 64 by rw [List.length_append, schedW_length, List.length_replicate]; omega)
      by_cases h16 : i < 16
      · have h162 : decide ((i : Int) < 16) = true := decide_eq_true (by omega)
        have hll := LL.out
        obtain ⟨j0, hj0⟩ : ∃ j : Int, wrap64 (4 * (i : Int)) = j := ⟨_, rfl⟩
        have e0 : j0 = 4 * (i : Int) := by rw [← hj0]; unfold wrap64; omega
        obtain ⟨j1, hj1⟩ : ∃ j : Int, wrap64 (j0 + 1) = j := ⟨_, rfl⟩
        have e1 : j1 = 4 * (i : Int) + 1 := by rw [← hj1, e0]; unfold wrap64; omega
        obtain ⟨j2, hj2⟩ : ∃ j : Int, wrap64 (j0 + 2) = j := ⟨_, rfl⟩
        have e2 : j2 = 4 * (i : Int) + 2 := by rw [← hj2, e0]; unfold wrap64; omega
        obtain ⟨j3, hj3⟩ : ∃ j : Int, wrap64 (j0 + 3) = j := ⟨_, rfl⟩
        have e3 : j3 = 4 * (i : Int) + 3 := by rw [← hj3, e0]; unfold wrap64; omega
        have hjw0 : IntKind.i64.wrap (4 * (i : Int)) = j0 := (i64_w _).trans hj0
        have hjw1 : IntKind.i64.wrap (j0 + 1) = j1 := (i64_w _).trans hj1
        have hjw2 : IntKind.i64.wrap (j0 + 2) = j2 := (i64_w _).trans hj2
        have hjw3 : IntKind.i64.wrap (j0 + 3) = j3 := (i64_w _).trans hj3
        have p0 : 0 ≤ j0 := by omega
        have p1 : 0 ≤ j1 := by omega
        have p2 : 0 ≤ j2 := by omega
        have p3 : 0 ≤ j3 := by omega
        have q0 : j0 < l.length := by omega
        have q1 : j1 < l.length := by omega
        have q2 : j2 < l.length := by omega
        have q3 : j3 < l.length := by omega
        obtain ⟨ad, rfl, hx0⟩ := Kd.at_int HBL.out j0 p0 q0
        obtain ⟨ad1, e1_, hx1⟩ := Kd.at_int HBL.out j1 p1 q1
        obtain rfl : ad = ad1 := by injection e1_
        obtain ⟨ad2, e2_, hx2⟩ := Kd.at_int HBL.out j2 p2 q2
        obtain rfl : ad = ad2 := by injection e2_
        obtain ⟨ad3, e3_, hx3⟩ := Kd.at_int HBL.out j3 p3 q3
        obtain rfl : ad = ad3 := by injection e3_
        have hbw := below_step HB4.out HB.out
        replace hx0 := (hbw.cell (World.block_lt_of_cell? w _ hx0)).trans hx0
        replace hx1 := (hbw.cell (World.block_lt_of_cell? w _ hx1)).trans hx1
        replace hx2 := (hbw.cell (World.block_lt_of_cell? w _ hx2)).trans hx2
        replace hx3 := (hbw.cell (World.block_lt_of_cell? w _ hx3)).trans hx3
        have hE := Aside0.mk (And.intro e0 (And.intro e1 (And.intro e2 e3)))
        have hc1 : wr.cell? ⟨w4.heap.size, i, none⟩ = some (.int .u32 (rd (schedW l i ++ List.replicate (64 - i) 0) (i : Int))) := by rw [blk_cell HX.out]; exact arr32_at _ i (by rw [LSI.out]; omega)
        have hf1 : wr.frozen? ⟨w4.heap.size, i, none⟩ = false := blk_frozen HX.out _
        replace p0 := eq_true p0
        replace p1 := eq_true p1
        replace p2 := eq_true p2
        replace p3 := eq_true p3
        replace q0 := eq_true q0
        replace q1 := eq_true q1
        replace q2 := eq_true q2
        replace q3 := eq_true q3
        have hi3 := eq_true (show (i : Int) < 64 by omega)
        clear e0 e1 e2 e3 e1_ e2_ e3_ hbw hll hi
        go_upto_region 7 with (fail)
        go_region
        go_wp2
        go_roundg g0
        case measure => omega
        case rel =>
          have hi := hi3.mpr trivial
          have hn : nextW l (schedW l i) i = Go.bits .or .u32 (Go.bits .or .u32 (Go.bits .or .u32 (((rd l j0 % 4294967296) * 16777216) % 4294967296) (((rd l j1 % 4294967296) * 65536) % 4294967296)) (((rd l j2 % 4294967296) * 256) % 4294967296)) (rd l j3 % 4294967296) := by
            obtain ⟨e0, e1, e2, e3⟩ := hE.out
            rw [nextW, if_pos (by omega), e0, e1, e2, e3]
          refine ⟨i + 1, ?_, ⟨by have := HIG.out; omega⟩, ⟨?_⟩, ⟨?_⟩⟩
          · first | rfl | (congr 1; unfold wrap64; omega) | (simp; unfold wrap64; omega)
          · exact blk_drew (blk_put HX.out _ _ ((arr32_set _ _ _).trans (congrArg arr32 (hn ▸ sched_set l i (by omega)))))
          · exact (HB.out.setCell (by show w4.heap.size ≤ w4.heap.size; omega) _).drew
      · have h162 : decide ((i : Int) < 16) = false := decide_eq_false (by omega)
        obtain ⟨j0, hj0⟩ : ∃ j : Int, (i : Int) - 16 = j := ⟨_, rfl⟩
        obtain ⟨j1, hj1⟩ : ∃ j : Int, (i : Int) - 7 = j := ⟨_, rfl⟩
        obtain ⟨j2, hj2⟩ : ∃ j : Int, (i : Int) - 15 = j := ⟨_, rfl⟩
        obtain ⟨j3, hj3⟩ : ∃ j : Int, (i : Int) - 2 = j := ⟨_, rfl⟩
        have hg := fun (j : Int) (h0 : 0 ≤ j) (h1 : j < 64) => (blk_cell HX.out j.toNat).trans (arr32_at (schedW l i ++ List.replicate (64 - i) (0 : Int)) j.toNat (by rw [LSI.out]; omega))
        have hg0 := hg j0 (by omega) (by omega)
        have hg1 := hg j1 (by omega) (by omega)
        have hg2 := hg j2 (by omega) (by omega)
        have hg3 := hg j3 (by omega) (by omega)
        have hr := fun (j : Int) (h0 : 0 ≤ j) (h1 : j < i) => rd_sched l i j h0 h1
        obtain ⟨x0, hx0⟩ : ∃ x : Int, rd (schedW l i) j0 = x := ⟨_, rfl⟩
        obtain ⟨x1, hx1⟩ : ∃ x : Int, rd (schedW l i) j1 = x := ⟨_, rfl⟩
        obtain ⟨x2, hx2⟩ : ∃ x : Int, rd (schedW l i) j2 = x := ⟨_, rfl⟩
        obtain ⟨x3, hx3⟩ : ∃ x : Int, rd (schedW l i) j3 = x := ⟨_, rfl⟩
        rw [hr j0 (by omega) (by omega), hx0] at hg0
        rw [hr j1 (by omega) (by omega), hx1] at hg1
        rw [hr j2 (by omega) (by omega), hx2] at hg2
        rw [hr j3 (by omega) (by omega), hx3] at hg3
        have HN : Aside0 (nextW l (schedW l i) i = ((((x0 + x1) % 4294967296 + smallW x2) % 4294967296) + greatW x3) % 4294967296) := ⟨by rw [nextW, if_neg (by omega), hj0, hj1, hj2, hj3, hx0, hx1, hx2, hx3]⟩
        have hs0 : IntKind.i64.wrap ((i : Int) - 16) = j0 := by rw [← hj0]; exact (i64_w _).trans (by unfold wrap64; omega)
        have hs1 : IntKind.i64.wrap ((i : Int) - 7) = j1 := by rw [← hj1]; exact (i64_w _).trans (by unfold wrap64; omega)
        have hs2 : IntKind.i64.wrap ((i : Int) - 15) = j2 := by rw [← hj2]; exact (i64_w _).trans (by unfold wrap64; omega)
        have hs3 : IntKind.i64.wrap ((i : Int) - 2) = j3 := by rw [← hj3]; exact (i64_w _).trans (by unfold wrap64; omega)
        have p0 := eq_true (show 0 ≤ j0 by omega)
        have p1 := eq_true (show 0 ≤ j1 by omega)
        have p2 := eq_true (show 0 ≤ j2 by omega)
        have p3 := eq_true (show 0 ≤ j3 by omega)
        have q0 := eq_true (show j0 < 64 by omega)
        have q1 := eq_true (show j1 < 64 by omega)
        have q2 := eq_true (show j2 < 64 by omega)
        have q3 := eq_true (show j3 < 64 by omega)
        have hi3 := eq_true (show (i : Int) < 64 by omega)
        have HI := Aside0.mk hi
        have hc1 : wr.cell? ⟨w4.heap.size, i, none⟩ = some (.int .u32 (rd (schedW l i ++ List.replicate (64 - i) 0) (i : Int))) := by rw [blk_cell HX.out]; exact arr32_at _ i (by rw [LSI.out]; omega)
        have hf1 : wr.frozen? ⟨w4.heap.size, i, none⟩ = false := blk_frozen HX.out _
        obtain ⟨ga, gb, gc, gs, rfl, _, _, _, _, k1, k2, k3, k4⟩ := HTS.out.below HB.out
        obtain ⟨sv, hsv⟩ : ∃ y : Int, smallW x2 = y := ⟨_, rfl⟩
        have HCS := Aside0.mk (fun n => sha_turn1.calls x2 7 18 3 true sv ga gb gc gs (wr.drewN n) k1 k2 k3 k4 (by rw [← hsv]; exact small_eq x2))
        clear k1 k2 k3 k4
        obtain ⟨ha, hb, hc, hs, rfl, _, _, _, _, k1, k2, k3, k4⟩ := HTG.out.below HB.out
        obtain ⟨gv, hgv⟩ : ∃ y : Int, greatW x3 = y := ⟨_, rfl⟩
        have HCG := Aside0.mk (fun n => sha_turn1.calls x3 17 19 10 true gv ha hb hc hs (wr.drewN n) k1 k2 k3 k4 (by rw [← hgv]; exact great_eq x3))
        rw [hsv, hgv] at HN
        clear hj0 hj1 hj2 hj3 hx0 hx1 hx2 hx3 hg hr hsv hgv k1 k2 k3 k4 hi h16
        go_upto_region 8 with (fail)
        refine wp_region_quiet_tail_lit 25 (by kernel_rfl) (by kernel_rfl) ?_
        simp only [List.take_succ_cons, List.take_zero, List.drop_succ_cons, List.drop_zero]
        iterate 15 go_big_quiet_step (fail)
        go_big_quiet_step ((go_at_call 32; exact quiet_d0 (HCS.out _)))
        iterate 6 go_big_quiet_step (fail)
        go_big_quiet_step ((go_at_call 32; exact quiet_d0 (HCG.out _)))
        iterate 2 go_big_quiet_step (fail)
        refine wpQuiet_nil ?_
        intro _ hw'
        obtain ⟨nq, hw''⟩ := hw'
        subst hw''
        go_wp2
        go_roundg g0
        case measure => omega
        case rel =>
          have hi := HI.out
          refine ⟨i + 1, ?_, ⟨by have := HIG.out; omega⟩, ⟨?_⟩, ⟨?_⟩⟩
          · first | rfl | (congr 1; unfold wrap64; omega) | (simp; unfold wrap64; omega)
          · refine blk_put (blk_drewN HX.out _) _ _ ((arr32_set _ _ _).trans (congrArg arr32 ?_))
            rw [← sched_set l i (by omega), HN.out]
            congr 1
            omega
          · exact (pw_below_drewN HB.out _).setCell (by show w4.heap.size ≤ w4.heap.size; omega) _
theorem run_loadVar_at {P : Program} (w : World) (ad : Addr) (ty : TypeId) (cs : Array Value) (d : TypeDesc) (hc : ∀ j v, cs.toList[j]? = some v → w.cell? (ad.add j) = some v)
    (hu : P.underlying ty = some d) (hd : (match d with | .struct _ | .array _ _ => true | _ => false) = true) (hi : (P.info? ty).map (·.size) = some cs.size) :
    (loadVar ty ad).run P w = .ok (.agg cs) w := by
  have hl := run_loadCells_list (P := P) w ad cs.toList hc
  cases hq : P.info? ty with
  | none => simp [hq] at hi
  | some i =>
    have hs : i.size = cs.size := by simpa [hq] using hi
    have hagg : (isAgg ty).run P w = .ok true w := by
      unfold isAgg
      rw [Sem.run_bind, run_underlying hu w]
      cases d <;> simp_all
    simp only [Array.length_toList, Array.toArray_toList] at hl
    simp [loadVar, Sem.run_bind, hagg, sizeOf, typeInfo, hq, hs, hl]
theorem loadAt_run {P : Program} {w : World} {ty : TypeId} {ad : Addr} {v : Value} (h : (loadVar ty ad).run P w = .ok v w) {N : Option Tmp} {x : Operand} {tp : TypeId} {pos : String} {af : Array Edge} {gd : Option (Nat × Bool)} {ev : Operand → Value} (hx : ev x = .pointer (some ad)) :
    (execOp ev { dst := N, op := .load ty x, type := tp, pos := pos, after := af, guard := gd }).run P w = .ok (.value v) w := by
  simp [execOp, hx, Instr.loadAt, Instr.sureAddr, h, Result.andThen]
theorem run_arrayAt {P : Program} (t e : TypeId) (n : Nat) (h : P.underlying t = some (.array n e)) (A : Option Addr) (len c : Nat) (hl : n ≤ len) (W : World) : (Instr.arrayAt t (.slice A len c)).run P W = .ok (.pointer A) W := by
  have : ¬ len < n := by omega
  simp [Instr.arrayAt, run_underlying h, this, go_sem]
def sha_Write.T10 : Bool × List (List Nat × List Nat) := (true, [([], []), ([], []), ([1], [1]), ([], []), ([3], [3]), ([], []), ([5], [5]), ([6], [6]), ([4, 7], [4, 7]), ([0, 2, 8], [0, 2, 8]), ([9, 2, 0, 1, 2, 3, 4, 5, 6, 7, 8, 9], [9])])
def sha_Write.B10 : List Nat := [0, 0, 2, 0, 8, 0, 32, 96, 248, 511, 1023]
theorem sha_Write.tab10 : rtab .any (opsOf Try.f10 10) = sha_Write.T10 := by kernel_rfl
theorem sha_Write.bits10 : waitsOk sha_Write.T10.2 sha_Write.B10 = true := by kernel_rfl
theorem V_arr32 {W : World} {g : Nat} {xs : List Int} {t e base : Nat} {ok : Nat → Prop} (h8 : xs.length = 8) (hg : W.heap[g]? = some (.cells (arr32 xs) t (0, 0))) (hok : ok g) : Kd.V (Kd.int .u32) e W base ok (.slice (some ⟨g, 0, none⟩) 8 8) xs := by
  rw [← h8]
  refine Kd.V_mk (Nat.le_refl _) ?_
  intro W' hW
  have hg' := (hW g hok (blk_lt hg)).trans hg
  refine Kd.C_of_reads (d := (0 : Int)) (h1 := fun _ => rfl) ⟨rfl, by omega, fun _ => ⟨_, rfl, fun i hi => ?_⟩⟩
  have hadd : (⟨g, 0, none⟩ : Addr).add i = ⟨g, i, none⟩ := by unfold Addr.add; split <;> simp_all
  rw [hadd, blk_cell hg' i]
  simp [arr32, hi]
theorem one3 (a b c : Value) (ha : a.oneCell' = true) (hb : b.oneCell' = true) (hc : c.oneCell' = true) : (#[a, b, c] : Array Value).all (·.oneCell') = true := by
  rw [Array.all_eq_true_iff_forall_mem]; intro v hv
  simp at hv
  rcases hv with rfl | rfl | rfl <;> assumption
def eatV (kk : List Int) : Nat → List Int → List Int → List Int × List Int
  | 0, h, all => (h, all)
  | n + 1, h, all => if 64 ≤ all.length then eatV kk n (blockV h kk (all.take 64)) (all.drop 64) else (h, all)
set_option maxHeartbeats 8000000 in
set_option maxRecDepth 100000 in
theorem sha_Write_no (A0_0 : Option Addr) (c0_0 : Nat) (l0_0 : List Int) (A0_1 : Option Addr) (c0_1 : Nat) (l0_1 : List Int) (a0_2 : Int) (A1 : Option Addr) (c1 : Nat) (l1 : List Int) (w : World)
    (hr00 : Kd.C (Kd.int .u32) w A0_0 l0_0.length l0_0) (hc00 : l0_0.length ≤ c0_0) (hr01 : Kd.C (Kd.int .u8) w A0_1 l0_1.length l0_1) (hc01 : l0_1.length ≤ c0_1) (hk : sha_Check.f l0_0 l0_1 a0_2 = some false) :
    Calls Try.prog 10 #[.agg #[.slice A0_0 l0_0.length c0_0, .slice A0_1 l0_1.length c0_1, .int .u64 a0_2], .slice A1 l1.length c1] w fun e w' => e = .returned (.agg #[.slice A0_0 l0_0.length c0_0, .slice A0_1 l0_1.length c0_1, .int .u64 a0_2]) ∧ Below w.heap.size w w' := by
  have H1 := Aside0.mk hr00
  have H2 := Aside0.mk hr01
  have H3 := Aside0.mk hc00
  have H4 := Aside0.mk hc01
  have HK := Aside0.mk hk
  clear hr00 hr01 hc00 hc01 hk
  obtain ⟨O1, hO1⟩ : ∃ O, O = Obj.cells #[.slice A0_0 l0_0.length c0_0, .slice A0_1 l0_1.length c0_1, .int .u64 a0_2] 26 := ⟨_, rfl⟩
  obtain ⟨O2, hO2⟩ : ∃ O, O = Obj.cells #[.slice none 0 0, .slice none 0 0, .int .u64 0] 26 := ⟨_, rfl⟩
  have hb0 := blk_new w O1
  have hb1 := blk_new (w.alloc O1) O2
  rw [show (w.alloc O1).heap.size = w.heap.size + 1 by simp] at hb1
  have hB := ((Below.refl w.heap.size w).alloc (Nat.le_refl _) O1).alloc (by simp) O2
  have BK0 := Aside0.mk (blk_alloc hb0 O2)
  have BK1 := Aside0.mk hb1
  have HB := Aside0.mk hB
  subst hO1 hO2
  clear hb0 hb1 hB
  go_enter Try.func10, Try.ntmps10
  go_upto_region 1 with (fail)
  generalize (w.alloc _).alloc _ = w2 at BK0 BK1 HB ⊢
  have hx0 : w2.cell? ⟨w.heap.size, 0, none⟩ = some (.slice A0_0 l0_0.length c0_0) := (blk_cell BK0.out 0).trans rfl
  have hx1 : w2.cell? ⟨w.heap.size, 1, none⟩ = some (.slice A0_1 l0_1.length c0_1) := (blk_cell BK0.out 1).trans rfl
  have hx2 : w2.cell? ⟨w.heap.size, 2, none⟩ = some (.int .u64 a0_2) := (blk_cell BK0.out 2).trans rfl
  go_upto_region 2 with (go_at_call 7; refine (sha_Check.calls _ _ l0_0 _ _ l0_1 _ false _ (Kd.C_below H1.out HB.out) H3.out (Kd.C_below H2.out HB.out) H4.out HK.out).mono ?_; rintro e w3 ⟨rfl, hb⟩; have HB3 := Aside0.mk hb; clear hb)
  have BK3 := Aside0.mk (blk_below BK1.out HB3.out)
  have BK4 := Aside0.mk (blk_below BK0.out HB3.out)
  have HST := Aside0.mk (run_storeVar_row (P := Try.prog) w3 (w.heap.size + 1) 26 26 _ #[.slice A0_0 l0_0.length c0_0, .slice A0_1 l0_1.length c0_1, .int .u64 a0_2] BK3.out (by kernel_rfl) rfl (one3 _ _ _ rfl rfl rfl))
  have HL3 := Aside0.mk (run_loadVar_row (P := Try.prog) w3 w.heap.size 26 26 _ (0, 0) _ BK4.out Try.underlying26 rfl (by kernel_rfl))
  clear hx0 hx1 hx2
  refine wp_region_lit ?_
  refine Kd.event_run (v := .agg #[.slice A0_0 l0_0.length c0_0, .slice A0_1 l0_1.length c0_1, .int .u64 a0_2]) (w1 := w3) rfl (loadRow_run HL3.out rfl) ?_
  refine store_event (w1 := w3.setRow (w.heap.size + 1) #[.slice A0_0 l0_0.length c0_0, .slice A0_1 l0_1.length c0_1, .int .u64 a0_2]) rfl rfl rfl (storeRow_run HST.out rfl rfl) ?_
  intro w4 hw
  subst hw
  go_wp2
  refine bodyPost_ret (results_cell_row rfl _ _ (w.heap.size + 1) 26 #[.slice A0_0 l0_0.length c0_0, .slice A0_1 l0_1.length c0_1, .int .u64 a0_2] (0, 0) _ rfl (setRow_heap _ _ _ _ _ _ BK3.out) Try.underlying26 rfl (by kernel_rfl)) rfl ?_
  exact ⟨rfl, below_setRow' (below_step HB.out HB3.out) (by omega) _⟩
set_option maxHeartbeats 8000000 in
set_option maxRecDepth 100000 in
theorem sha_Write_yes (A0_0 : Option Addr) (c0_0 : Nat) (l0_0 : List Int) (A0_1 : Option Addr) (c0_1 : Nat) (l0_1 : List Int) (a0_2 : Int) (A1 : Option Addr) (c1 : Nat) (l1 : List Int) (w : World)
    (hr00 : Kd.C (Kd.int .u32) w A0_0 l0_0.length l0_0) (hc00 : l0_0.length ≤ c0_0) (hr01 : Kd.C (Kd.int .u8) w A0_1 l0_1.length l0_1) (hc01 : l0_1.length ≤ c0_1) (hk : sha_Check.f l0_0 l0_1 a0_2 = some true)
    (hr1 : Kd.C (Kd.int .u8) w A1 l1.length l1) (hc1 : l1.length ≤ c1) (hlen : l0_1.length + l1.length < 140737488355328) (h8 : l0_0.length = 8) (kk : List Int) (hkk : kk.length = 64) (al : List Int) (hall : al = l0_1 ++ l1)
    (hcon : ∀ w, Calls Try.prog 21 #[] w fun e w' => e = .returned (.agg (arr32 kk)) ∧ Below w.heap.size w w') :
    Calls Try.prog 10 #[.agg #[.slice A0_0 l0_0.length c0_0, .slice A0_1 l0_1.length c0_1, .int .u64 a0_2], .slice A1 l1.length c1] w fun e w' => ∃ v0_ v1_ : Value, e = .returned (.agg #[v0_, v1_, .int .u64 (IntKind.u64.wrap (a0_2 + IntKind.u64.wrap (l1.length : Int)))]) ∧ Kd.V (Kd.int .u32) 39 w' w.heap.size (fun k_ => w.heap.size ≤ k_) v0_ (eatV kk al.length l0_0 al).1 ∧ Kd.V (Kd.int .u8) 5 w' w.heap.size (fun k_ => w.heap.size ≤ k_) v1_ (eatV kk al.length l0_0 al).2 ∧ Below w.heap.size w w' := by
  have H1 := Aside0.mk hr00
  have H2 := Aside0.mk hr01
  have H3 := Aside0.mk hc00
  have H4 := Aside0.mk hc01
  have HK := Aside0.mk hk
  have HR1 := Aside0.mk hr1
  have HC1 := Aside0.mk hc1
  have HLEN := Aside0.mk hlen
  have H8 := Aside0.mk h8
  have HKK := Aside0.mk hkk
  have HALL := Aside0.mk hall
  have HCON := Aside0.mk hcon
  clear hr00 hr01 hc00 hc01 hk hr1 hc1 hlen h8 hkk hcon hall
  obtain ⟨O1, hO1⟩ : ∃ O, O = Obj.cells #[.slice A0_0 l0_0.length c0_0, .slice A0_1 l0_1.length c0_1, .int .u64 a0_2] 26 := ⟨_, rfl⟩
  obtain ⟨O2, hO2⟩ : ∃ O, O = Obj.cells #[.slice none 0 0, .slice none 0 0, .int .u64 0] 26 := ⟨_, rfl⟩
  have hb0 := blk_new w O1
  have hb1 := blk_new (w.alloc O1) O2
  rw [show (w.alloc O1).heap.size = w.heap.size + 1 by simp] at hb1
  have hB := ((Below.refl w.heap.size w).alloc (Nat.le_refl _) O1).alloc (by simp) O2
  have BK0 := Aside0.mk (blk_alloc hb0 O2)
  have BK1 := Aside0.mk hb1
  have HB := Aside0.mk hB
  subst hO1 hO2
  clear hb0 hb1 hB
  go_enter Try.func10, Try.ntmps10
  go_upto_region 1 with (fail)
  generalize (w.alloc _).alloc _ = w2 at BK0 BK1 HB ⊢
  have hx0 : w2.cell? ⟨w.heap.size, 0, none⟩ = some (.slice A0_0 l0_0.length c0_0) := (blk_cell BK0.out 0).trans rfl
  have hx1 : w2.cell? ⟨w.heap.size, 1, none⟩ = some (.slice A0_1 l0_1.length c0_1) := (blk_cell BK0.out 1).trans rfl
  have hx2 : w2.cell? ⟨w.heap.size, 2, none⟩ = some (.int .u64 a0_2) := (blk_cell BK0.out 2).trans rfl
  go_upto_region 3 with (go_at_call 7; refine (sha_Check.calls _ _ l0_0 _ _ l0_1 _ true _ (Kd.C_below H1.out HB.out) H3.out (Kd.C_below H2.out HB.out) H4.out HK.out).mono ?_; rintro e w3 ⟨rfl, hb⟩; have HB3 := Aside0.mk hb; clear hb)
  have BK3 := Aside0.mk (blk_below BK1.out HB3.out)
  have BK4 := Aside0.mk (blk_below BK0.out HB3.out)
  have HBw3 := Aside0.mk (below_step HB.out HB3.out)
  clear hx0 hx1 hx2 HB HB3 BK0 BK1 HK
  have hx0 : w3.cell? ⟨w.heap.size, 0, none⟩ = some (.slice A0_0 l0_0.length c0_0) := (blk_cell BK4.out 0).trans rfl
  have hx1 : w3.cell? ⟨w.heap.size, 1, none⟩ = some (.slice A0_1 l0_1.length c0_1) := (blk_cell BK4.out 1).trans rfl
  obtain ⟨ad, c_, had, -⟩ := Kd.C_get H1.out (0 : Int) 0 (by decide) (by rw [H8.out]; decide)
  subst had
  have hcs : ∀ (j : Nat) v, (arr32 l0_0).toList[j]? = some v → w3.cell? (ad.add j) = some v := by
    intro j v hv
    have hj : j < 8 := by
      have := (List.getElem?_eq_some_iff.1 hv).1
      rw [Array.length_toList, arr32_size, H8.out] at this; exact this
    obtain ⟨ad2, e2, hc2⟩ := Kd.at_int (Kd.C_below H1.out HBw3.out) (j : Int) (by omega) (by rw [H8.out]; omega)
    injection e2 with e2
    subst e2
    rw [Array.getElem?_toList, arr32_at l0_0 j (by rw [H8.out]; exact hj)] at hv
    injection hv with hv
    rw [← hv, ← hc2, Int.toNat_natCast]
  have HLD := Aside0.mk (run_loadVar_at (P := Try.prog) w3 ad 41 (arr32 l0_0) _ hcs Try.underlying41 rfl (by rw [arr32_size, H8.out]; kernel_rfl))
  have hz := blk_new w3 (.cells (arr32 (List.replicate 8 0)) 41)
  have HS1 := Aside0.mk (run_storeVar_row (P := Try.prog) (w3.alloc (.cells (arr32 (List.replicate 8 0)) 41)) w3.heap.size 41 41 (arr32 (List.replicate 8 0)) (arr32 l0_0) hz (by rw [arr32_size, H8.out]; kernel_rfl) (by rw [arr32_size, arr32_size, H8.out]; rfl) (arr32_one l0_0))
  have HZ := Aside0.mk hz
  have hAA := run_arrayAt (P := Try.prog) 41 39 8 Try.underlying41 (some ad) l0_0.length c0_0 (by rw [H8.out]; exact Nat.le_refl _) w3
  clear hcs hz
  obtain ⟨g5, hg5⟩ : ∃ g, g = w3.heap.size := ⟨_, rfl⟩
  obtain ⟨w5, hw5⟩ : ∃ w5, w5 = (w3.alloc (.cells (arr32 (List.replicate 8 0)) 41)).setRow w3.heap.size (arr32 l0_0) := ⟨_, rfl⟩
  have hg5z : w5.heap.size = g5 + 1 := by rw [hw5, hg5]; simp
  have HB5 := Aside0.mk (show Below w.heap.size w w5 by rw [hw5]; exact below_setRow' (HBw3.out.alloc HBw3.out.size _) HBw3.out.size _)
  have h35 : Below w3.heap.size w3 w5 := by rw [hw5]; exact below_setRow' ((Below.refl _ _).alloc (Nat.le_refl _) _) (Nat.le_refl _) _
  have BH5 : Aside0 (w5.heap[g5]? = some (.cells (arr32 l0_0) 41 (0, 0))) := ⟨by rw [hw5, hg5]; exact setRow_heap _ _ _ _ _ _ HZ.out⟩
  have BK05 := Aside0.mk (blk_below BK4.out h35)
  have BK15 := Aside0.mk (blk_below BK3.out h35)
  have HG5 := Aside0.mk (show w.heap.size + 2 ≤ g5 by have := blk_lt BK3.out; omega)
  have HG5Z := Aside0.mk hg5z
  have HW5 := Aside0.mk hw5
  have HGG := Aside0.mk hg5
  clear hw5 hg5z h35 hg5 HZ
  go_upto_region 4 with (first
    | ((with_reducible refine gate_dst (N := 15) rfl ?_); refine Kd.event_run (v := .agg (arr32 l0_0)) (w1 := w3) rfl (loadAt_run HLD.out rfl) ?_)
    | ((with_reducible refine gate_store (t := 41) (p := 5) rfl ?_); refine store_event (t := 41) (p := 5) (v := .tmp 15) (w1 := (w3.alloc (.cells (arr32 (List.replicate 8 0)) 41)).setRow w3.heap.size (arr32 l0_0)) ?hg ?ho ?hn ?hr ?_; (case ho => rfl); (case hg => rfl); (case hn => rfl); (case hr => exact storeRow_run HS1.out rfl rfl); intro w5_ hw; rw [← HW5.out] at hw; rw [hw]; clear hw w5_))
  rw [← HGG.out]
  clear HLD HS1 hAA hx0 hx1 BK3 BK4 HGG HW5
  have hx1 : w5.cell? ⟨w.heap.size, 1, none⟩ = some (.slice A0_1 l0_1.length c0_1) := (blk_cell BK05.out 1).trans rfl
  go_upto_region 5 with (first
    | (go_at_call 20; refine (bytes_Clone.calls A0_1 c0_1 l0_1 l0_1 w5 (Kd.C_below H2.out HB5.out) H4.out (if_pos (by have := HLEN.out; omega))).mono ?_; rintro e w6 ⟨vc, rfl, ho, hb⟩; have HO := Aside0.mk ho; have HB6 := Aside0.mk hb; clear ho hb)
    | ((with_reducible refine gate_builtin (b := .append) (xs := #[.tmp 18, .tmp 19]) rfl ?_); at_builtin; refine Kd.R_append_rows (Kd.int .u8) (w0 := w5) w5.heap.size rfl (.tmp 18) (.tmp 19) 23 5 (.int .u8 0) 1 rfl Try.underlying23 info5 rfl (by decide) (by omega) vc l0_1 l1 _ _ _ (fun _ => True) (fun _ => False) rfl rfl HO.out (Kd.C_below HR1.out (below_step HB5.out HB6.out)) (fun _ _ h => h) (fun _ h => h.elim) (fun _ _ => trivial) HB6.out HB6.out.size (by have := HLEN.out; omega) ?_; intro v7 w7 ho hb hg hat; have HO7 := Aside0.mk ho; have HB7 := Aside0.mk hb; clear ho hb hg hat; obtain ⟨A7, c7, e7⟩ := Kd.R_slice HO7.out; subst e7))
  have HV7 := Aside0.mk (Kd.R_V (base' := 0) (Kd.R_mono (Kd.R_bound HO7.out) (ok' := fun k => w5.heap.size ≤ k) (fun k hk => hk.2.1)))
  have HL7 := Aside0.mk (show (l0_1 ++ l1).length < 140737488355328 by rw [List.length_append]; exact HLEN.out)
  have hsum : l0_1.length + l1.length = al.length := by rw [HALL.out, List.length_append]
  rw [← HALL.out] at HV7 HL7
  rw [hsum]
  have hcl := (Kd.V_reads' HV7.out).2.1
  have HCL := Aside0.mk hcl
  clear hx1 HO HO7 HB6 hsum hcl
  have BK0 := Aside0.mk (blk_below BK05.out HB7.out)
  have BK1 := Aside0.mk (blk_below BK15.out HB7.out)
  have BH := Aside0.mk (blk_below BH5.out HB7.out)
  have HB := Aside0.mk (below_step HB5.out HB7.out)
  clear BK05 BK15 BH5 HB5
  by_cases h64 : 64 ≤ al.length
  · have hd1 : decide (64 ≤ (al.length : Int)) = true := decide_eq_true (by omega)
    have hd2 : decide (64 ≤ al.length) = true := decide_eq_true h64
    have hHH8 : (arr32 (List.replicate 64 0)).size = 64 := rfl
    go_wp2_with (first
      | (go_at_call 21; refine (HCON.out _).mono ?_; rintro e w8 ⟨rfl, hb⟩; have HB8 := Aside0.mk hb; have HZ8 := Aside0.mk (blk_new w8 (.cells (arr32 (List.replicate 64 0)) 42)); have HS8 := Aside0.mk (run_storeVar_row (P := Try.prog) (w8.alloc (.cells (arr32 (List.replicate 64 0)) 42)) w8.heap.size 42 42 (arr32 (List.replicate 64 0)) (arr32 kk) HZ8.out (by rw [arr32_size, HKK.out]; kernel_rfl) (by rw [arr32_size, arr32_size, HKK.out]; rfl) (arr32_one kk)); clear hb)
      | ((with_reducible refine gate_store (t := 42) (p := 7) rfl ?_); refine store_event (t := 42) (p := 7) (v := .tmp 24) (w1 := (w8.alloc (.cells (arr32 (List.replicate 64 0)) 42)).setRow w8.heap.size (arr32 kk)) ?hg ?ho ?hn ?hr ?_; (case ho => rfl); (case hg => rfl); (case hn => rfl); (case hr => exact storeRow_run HS8.out rfl rfl); intro w9 hw; have HW9 := Aside0.mk hw; clear hw))
    have h89 : Below w8.heap.size w8 w9 := by rw [HW9.out]; exact below_setRow' ((Below.refl _ _).alloc (Nat.le_refl _) _) (Nat.le_refl _) _
    have h79 := HB8.out.trans (h89.mono HB8.out.size)
    have BG7 : Aside0 (w9.heap[w8.heap.size]? = some (.cells (arr32 kk) 42 (0, 0))) := ⟨by rw [HW9.out]; exact setRow_heap _ _ _ _ _ _ HZ8.out⟩
    replace BK0 := Aside0.mk (blk_below BK0.out h79)
    replace BK1 := Aside0.mk (blk_below BK1.out h79)
    replace BH := Aside0.mk (blk_below BH.out h79)
    replace HB := Aside0.mk (below_step HB.out h79)
    replace HV7 := Aside0.mk (Kd.V_below HV7.out h79)
    have HG78 := Aside0.mk (show g5 < w8.heap.size by have := HG5Z.out; have := HB7.out.size; have := HB8.out.size; omega)
    clear h89 h79 HS8 HZ8 HW9 HB8
    go_loopg [6] al.length (fun g v6 w' => ∃ (A : Option Addr) (c : Nat) (hh a : List Int), v6 = .slice A a.length c ∧ Aside0 (eatV kk g hh a = eatV kk al.length l0_0 al) ∧ Aside0 (a.length ≤ g) ∧ Aside0 (g ≤ al.length) ∧ Aside0 (hh.length = 8) ∧ Aside0 (Kd.V (Kd.int .u8) 5 w' 0 (fun k => w5.heap.size ≤ k) (.slice A a.length c) a) ∧ Aside0 (w'.heap[w.heap.size]? = some (.cells #[.slice (some ad) l0_0.length c0_0, .slice A0_1 l0_1.length c0_1, .int .u64 a0_2] 26 (0, 0))) ∧ Aside0 (w'.heap[w.heap.size + 1]? = some (.cells #[.slice none 0 0, .slice none 0 0, .int .u64 0] 26 (0, 0))) ∧ Aside0 (w'.heap[g5]? = some (.cells (arr32 hh) 41 (0, 0))) ∧ Aside0 (w'.heap[w8.heap.size]? = some (.cells (arr32 kk) 42 (0, 0))) ∧ Aside0 (Below w.heap.size w w'))
    case atStart => exact ⟨A7, c7, l0_0, al, rfl, ⟨rfl⟩, ⟨Nat.le_refl _⟩, ⟨Nat.le_refl _⟩, H8, HV7, BK0, BK1, BH, BG7, HB⟩
    case round =>
      clear HV7 BK0 BK1 BH BG7 HB HCL hd1 hd2 h64
      obtain ⟨A, c, hh, a, rfl, HE, HAG, HGA, HH8, HV, BK0, BK1, BH, BG7, HB⟩ := hrel
      by_cases h64 : 64 ≤ a.length
      · obtain ⟨g, rfl⟩ : ∃ g, gk = g + 1 := ⟨gk - 1, by have := HAG.out; omega⟩
        have hd1 : decide (64 ≤ (a.length : Int)) = true := decide_eq_true (by omega)
        have hd2 : decide (64 ≤ a.length) = true := decide_eq_true h64
        have hac := (Kd.V_reads' HV.out).2.1
        have HAC := Aside0.mk hac
        have hc64 : (64 : Int) ≤ (c : Int) := by omega
        have hF := Kd.V_F HV.out
        have hlt : (a.take 64).length = 64 := by rw [List.length_take]; omega
        have hbk := fun W h1 h2 h3 => sha_block.calls g5 w8.heap.size hh kk A c (a.take 64) W h1 h2 HH8.out HKK.out h3 hlt (by rw [hlt]; omega)
        rw [hlt] at hbk
        have hC64 := Kd.F_now (Kd.F_take hF h64)
        rw [hlt] at hC64
        have HBK := Aside0.mk (hbk wr BH.out BG7.out hC64)
        have HFC := Aside0.mk (Kd.F_cut hF h64 hac)
        have H64 := Aside0.mk h64
        have hla : (64 : Int) ≤ (a.length : Int) := by omega
        clear hbk hC64 hF hlt hac
        go_wp2_with (go_at_call 22; refine HBK.out.mono ?_; rintro e w10 ⟨rfl, hb⟩; have HB10 := Aside0.mk hb; clear hb)
        all_goals
          have hst : ∀ k, k ≠ g5 → k < wr.heap.size → w10.heap[k]? = wr.heap[k]? := fun k hk hk2 => (HB10.out.block k hk2).trans (setRow_other _ _ _ _ hk)
          have HST := Aside0.mk hst
          have HSZ10 := Aside0.mk (show wr.heap.size ≤ w10.heap.size by have := HB10.out.size; rw [setRow_size] at this; exact this)
          clear hst
          go_roundg g
          case measure => omega
          case rel =>
            have hge := HG5.out
            have hgz := HG5Z.out
            have h64 := H64.out
            have hst := HST.out
            have l0 := blk_lt BK0.out
            have l1 := blk_lt BK1.out
            have l2 := blk_lt BG7.out
            refine ⟨if c = 64 then A else A.map (·.add (64 * 1)), c - 64, blockV hh kk (a.take 64), a.drop 64, ?_, ⟨?_⟩, ⟨?_⟩, ⟨?_⟩, ⟨sumV_length _ _ _⟩, ⟨?_⟩, ⟨?_⟩, ⟨?_⟩, ⟨?_⟩, ⟨?_⟩, ⟨?_⟩⟩
            · rw [List.length_drop]; first | (rw [if_pos h]; subst h; rfl) | (rw [if_neg h]; rfl)
            · rw [← HE.out, eatV, if_pos h64]
            · rw [List.length_drop]; have := HAG.out; omega
            · have := HGA.out; omega
            · refine Kd.V_mk (by rw [List.length_drop]; have := HAC.out; omega) ?_
              exact Kd.F_step HFC.out (fun k hk hk2 => hst k (by omega) hk2)
            · exact (hst _ (by omega) l0).trans BK0.out
            · exact (hst _ (by omega) l1).trans BK1.out
            · exact (HB10.out.block _ (blk_lt BH.out)).trans (setRow_heap _ _ _ _ _ _ BH.out)
            · exact (hst _ (by have := HG78.out; omega) l2).trans BG7.out
            · exact ⟨HB10.out.os.trans HB.out.os, HB10.out.tape.trans HB.out.tape, HB10.out.output.trans HB.out.output, Nat.le_trans HB.out.size HSZ10.out, fun k hk => (hst k (by omega) (Nat.lt_of_lt_of_le hk HB.out.size)).trans (HB.out.block k hk)⟩
      · have hd1 : decide (64 ≤ (a.length : Int)) = false := decide_eq_false (by omega)
        have hd2 : decide (64 ≤ a.length) = false := decide_eq_false h64
        have he : eatV kk gk hh a = (hh, a) := by cases gk <;> (unfold eatV; first | rfl | rw [if_neg h64])
        have HEA1 := Aside0.mk (show (eatV kk al.length l0_0 al).1 = hh by rw [← HE.out, he])
        have HEA2 := Aside0.mk (show (eatV kk al.length l0_0 al).2 = a by rw [← HE.out, he])
        have HCA := Aside0.mk (Kd.V_reads' HV.out).2.2
        have HAC := Aside0.mk (Kd.V_reads' HV.out).2.1
        have HAL := Aside0.mk (show a.length < 140737488355328 by have := HAG.out; have := HGA.out; have := HL7.out; omega)
        clear he
        go_upto_region 10 with (fail)
        have hy0 : wr.cell? ⟨w.heap.size, 2, none⟩ = some (.int .u64 a0_2) := (blk_cell BK0.out 2).trans rfl
        have HY0 := Aside0.mk hy0
        clear hy0
        refine start_ (n := 11) (S := fun w' => w'.cell? ⟨w.heap.size, 2, none⟩ = some (.int .u64 a0_2)) (ds := []) #[false, false, false, false, false, false, false, false, false, false, false] (by kernel_rfl) rfl rfl HY0.out (fun hHeld => ?_)
        refine with_tabW sha_Write.tab10 sha_Write.bits10 (fun HT_ HW_ => ?_)
        replace HB := Aside0.mk (below_drew1 HB.out)
        replace BK0 := Aside0.mk (blk_drew BK0.out)
        replace BK1 := Aside0.mk (blk_drew BK1.out)
        replace BH := Aside0.mk (blk_drew BH.out)
        replace HCA := Aside0.mk (Kd.C_drew HCA.out)
        generalize wr.drew = wz at HB BK0 BK1 BH HCA hHeld ⊢
        refine pure_ (i := 0) (N := some 33) (v := ?_) (a' := ?_) #[true, false, false, false, false, false, false, false, false, false, false] rfl rfl (any_of HT_.out (by kernel_rfl)) (fun _ _ _ h => h) (Or.inl ⟨by rfl, ?_⟩) ?_ ?_
        rotate_left
        · intro w'
          go_simp
          with_reducible rfl
        rotate_left
        · simp only [Act.put, List.setIfInBounds_toArray, List.set_cons_zero, List.set_cons_succ, i64_w, i32_w]
          rfl
        refine pure_ (i := 1) (N := some 34) (v := ?_) (a' := ?_) #[true, true, false, false, false, false, false, false, false, false, false] rfl rfl (any_of HT_.out (by kernel_rfl)) (fun _ _ _ h => h) (Or.inl ⟨by rfl, ?_⟩) ?_ ?_
        rotate_left
        · intro w'
          go_simp
          with_reducible rfl
        rotate_left
        · simp only [Act.put, List.setIfInBounds_toArray, List.set_cons_zero, List.set_cons_succ, i64_w, i32_w]
          rfl
        refine pure_ (i := 3) (N := some 36) (v := ?_) (a' := ?_) #[true, true, false, true, false, false, false, false, false, false, false] rfl rfl (any_of HT_.out (by kernel_rfl)) (fun _ _ _ h => h) (Or.inl ⟨by rfl, ?_⟩) ?_ ?_
        rotate_left
        · intro w'
          go_simp
          with_reducible rfl
        rotate_left
        · simp only [Act.put, List.setIfInBounds_toArray, List.set_cons_zero, List.set_cons_succ, i64_w, i32_w]
          rfl
        refine pure_ (i := 5) (N := some 38) (v := ?_) (a' := ?_) #[true, true, false, true, false, true, false, false, false, false, false] rfl rfl (any_of HT_.out (by kernel_rfl)) (fun _ _ _ h => h) (Or.inl ⟨by rfl, ?_⟩) ?_ ?_
        rotate_left
        · intro w'
          go_simp
          with_reducible rfl
        rotate_left
        · simp only [Act.put, List.setIfInBounds_toArray, List.set_cons_zero, List.set_cons_succ, i64_w, i32_w]
          rfl
        refine pure_ (i := 6) (N := some 39) (v := ?_) (a' := ?_) #[true, true, false, true, false, true, true, false, false, false, false] rfl rfl (any_of HT_.out (by kernel_rfl)) (fun _ _ _ h => h) (Or.inl ⟨by rfl, ?_⟩) ?_ ?_
        rotate_left
        · intro w'
          go_simp
          with_reducible rfl
        rotate_left
        · simp only [Act.put, List.setIfInBounds_toArray, List.set_cons_zero, List.set_cons_succ, i64_w, i32_w]
          rfl
        refine pure_ (i := 7) (N := some 40) (v := ?_) (a' := ?_) #[true, true, false, true, false, true, true, true, false, false, false] rfl rfl (any_of HT_.out (by kernel_rfl)) (fun _ _ _ h => h) (Or.inl ⟨by rfl, ?_⟩) ?_ ?_
        rotate_left
        · intro w'
          go_simp
          with_reducible rfl
        rotate_left
        · simp only [Act.put, List.setIfInBounds_toArray, List.set_cons_zero, List.set_cons_succ, i64_w, i32_w]
          rfl
        refine take_ (i := 4) (N := some 37) (v := ?_) (a' := ?_) #[true, true, false, true, true, true, true, true, false, false, false] rfl rfl (take_ofW HT_.out HW_.out (by kernel_rfl)) (fun _ _ _ h => h) (Or.inl ⟨by rfl, ?_⟩) hHeld ?_ ?_
        rotate_left
        · rintro w' s0
          go_simp
          with_reducible rfl
        rotate_left
        · simp only [Act.put, List.setIfInBounds_toArray, List.set_cons_zero, List.set_cons_succ, i64_w, i32_w]
          rfl
        refine pure_ (i := 8) (N := some 41) (v := ?_) (a' := ?_) #[true, true, false, true, true, true, true, true, true, false, false] rfl rfl (any_of HT_.out (by kernel_rfl)) (fun _ _ _ h => h) (Or.inl ⟨by rfl, ?_⟩) ?_ ?_
        rotate_left
        · intro w'
          go_simp
          with_reducible rfl
        rotate_left
        · simp only [Act.put, List.setIfInBounds_toArray, List.set_cons_zero, List.set_cons_succ, i64_w, i32_w]
          rfl
        refine one_ (i := 2) (N := some 35) #[true, true, true, true, true, true, true, true, true, false, false] rfl rfl (one_of HT_.out (by kernel_rfl)) (by decide) (fun K hK => ?_)
        refine goes_ Try.func20 (by kernel_rfl) rfl #[.slice A a.length c] (by rfl) rfl rfl (by (try simp only [List.map_toArray, List.map_cons, List.map_nil]); first | done | rfl) ?_
        refine (bytes_Clone.calls A c a a wz HCA.out HAC.out (if_pos HAL.out)).mono ?_
        rintro e wy ⟨vc, rfl, ho0, hb⟩
        refine ⟨_, rfl, ?_⟩
        obtain ⟨Ac, cc, evc⟩ := Kd.R_slice ho0
        subst evc
        have HVC := Aside0.mk (Kd.R_V (base' := 0) (Kd.R_mono (Kd.R_bound ho0) (ok' := fun k => wz.heap.size ≤ k) (fun k hk => hk.2.1)))
        have hlt1 := blk_lt BK1.out
        have hlt2 := blk_lt BH.out
        replace BK0 := Aside0.mk (blk_below BK0.out hb)
        replace BK1 := Aside0.mk (blk_below BK1.out hb)
        replace BH := Aside0.mk (blk_below BH.out hb)
        have HSZ := Aside0.mk HB.out.size
        replace HB := Aside0.mk (below_step HB.out hb)
        refine hK.out _ _ ((blk_cell BK0.out 2).trans rfl) (fun hHeld => ?_)
        clear hK K ho0 hb
        refine norm_ (a' := ?_) ?_ ?_
        rotate_left
        · show Act.put _ (some 35) _ = _
          simp only [Act.put, List.setIfInBounds_toArray, List.set_cons_zero, List.set_cons_succ, i64_w, i32_w]
          rfl
        refine pure_ (i := 9) (N := some 42) (v := ?_) (a' := ?_) #[true, true, true, true, true, true, true, true, true, true, false] rfl rfl (any_of HT_.out (by kernel_rfl)) (fun _ _ _ h => h) (Or.inl ⟨by rfl, ?_⟩) ?_ ?_
        rotate_left
        · intro w'
          go_simp
          with_reducible rfl
        rotate_left
        · simp only [Act.put, List.setIfInBounds_toArray, List.set_cons_zero, List.set_cons_succ, i64_w, i32_w]
          rfl
        refine one_ (i := 10) (N := none) #[true, true, true, true, true, true, true, true, true, true, true] rfl rfl (one_of HT_.out (by kernel_rfl)) (by decide) (fun K hK => ?_)
        have HST := Aside0.mk (run_storeVar_row (P := Try.prog) wy (w.heap.size + 1) 26 26 _ #[.slice (some ⟨g5, 0, none⟩) 8 8, .slice Ac a.length cc, .int .u64 (IntKind.u64.wrap (a0_2 + IntKind.u64.wrap (l1.length : Int)))] BK1.out (by kernel_rfl) rfl (one3 _ _ _ rfl rfl rfl))
        refine skip_ (w1 := wy.setRow (w.heap.size + 1) #[.slice (some ⟨g5, 0, none⟩) 8 8, .slice Ac a.length cc, .int .u64 (IntKind.u64.wrap (a0_2 + IntKind.u64.wrap (l1.length : Int)))]) (by rfl) rfl (storeRow_run HST.out rfl rfl) ?_
        refine hK.out _ _ ((cell_setRow_other _ _ _ _ (by show w.heap.size ≠ w.heap.size + 1; omega)).trans hHeld) (fun hHeld => ?_)
        clear hK K
        refine done_ (done_of HT_.out (by kernel_rfl)) ?_
        go_wp2
        refine bodyPost_ret (results_cell_row rfl _ _ (w.heap.size + 1) 26 #[.slice (some ⟨g5, 0, none⟩) 8 8, .slice Ac a.length cc, .int .u64 (IntKind.u64.wrap (a0_2 + IntKind.u64.wrap (l1.length : Int)))] (0, 0) _ rfl (setRow_heap _ _ _ _ _ _ BK1.out) Try.underlying26 rfl (by kernel_rfl)) rfl ?_
        have hl8 := HH8.out
        have hge := HG5.out
        have hsz := HSZ.out
        have hBH : (wy.setRow (w.heap.size + 1) #[.slice (some ⟨g5, 0, none⟩) 8 8, .slice Ac a.length cc, .int .u64 (IntKind.u64.wrap (a0_2 + IntKind.u64.wrap (l1.length : Int)))]).heap[g5]? = some (.cells (arr32 hh) 41 (0, 0)) := (setRow_other _ _ _ _ (by omega)).trans BH.out
        refine ⟨_, _, rfl, ?_, ?_, below_setRow' HB.out (by omega) _⟩
        · rw [HEA1.out]
          exact V_arr32 hl8 hBH (by omega)
        · rw [HEA2.out]
          exact Kd.V_mono (Kd.V_step HVC.out (fun k hk hk2 => setRow_other _ _ _ _ (by omega))) (fun k hk => by omega)
  · have hd1 : decide (64 ≤ (al.length : Int)) = false := decide_eq_false (by omega)
    have hd2 : decide (64 ≤ al.length) = false := decide_eq_false h64
    have HEA1 := Aside0.mk (show (eatV kk al.length l0_0 al).1 = l0_0 by cases al.length <;> (unfold eatV; first | rfl | rw [if_neg h64]))
    have HEA2 := Aside0.mk (show (eatV kk al.length l0_0 al).2 = al by cases al.length <;> (unfold eatV; first | rfl | rw [if_neg h64]))
    have HCA := Aside0.mk (Kd.V_reads' HV7.out).2.2
    have HAC := HCL
    have HAL := HL7
    have HH8 := H8
    go_upto_region 10 with (fail)
    have hy0 : w7.cell? ⟨w.heap.size, 2, none⟩ = some (.int .u64 a0_2) := (blk_cell BK0.out 2).trans rfl
    have HY0 := Aside0.mk hy0
    clear hy0
    refine start_ (n := 11) (S := fun w' => w'.cell? ⟨w.heap.size, 2, none⟩ = some (.int .u64 a0_2)) (ds := []) #[false, false, false, false, false, false, false, false, false, false, false] (by kernel_rfl) rfl rfl HY0.out (fun hHeld => ?_)
    refine with_tabW sha_Write.tab10 sha_Write.bits10 (fun HT_ HW_ => ?_)
    replace HB := Aside0.mk (below_drew1 HB.out)
    replace BK0 := Aside0.mk (blk_drew BK0.out)
    replace BK1 := Aside0.mk (blk_drew BK1.out)
    replace BH := Aside0.mk (blk_drew BH.out)
    replace HCA := Aside0.mk (Kd.C_drew HCA.out)
    generalize w7.drew = wz at HB BK0 BK1 BH HCA hHeld ⊢
    refine pure_ (i := 0) (N := some 33) (v := ?_) (a' := ?_) #[true, false, false, false, false, false, false, false, false, false, false] rfl rfl (any_of HT_.out (by kernel_rfl)) (fun _ _ _ h => h) (Or.inl ⟨by rfl, ?_⟩) ?_ ?_
    rotate_left
    · intro w'
      go_simp
      with_reducible rfl
    rotate_left
    · simp only [Act.put, List.setIfInBounds_toArray, List.set_cons_zero, List.set_cons_succ, i64_w, i32_w]
      rfl
    refine pure_ (i := 1) (N := some 34) (v := ?_) (a' := ?_) #[true, true, false, false, false, false, false, false, false, false, false] rfl rfl (any_of HT_.out (by kernel_rfl)) (fun _ _ _ h => h) (Or.inl ⟨by rfl, ?_⟩) ?_ ?_
    rotate_left
    · intro w'
      go_simp
      with_reducible rfl
    rotate_left
    · simp only [Act.put, List.setIfInBounds_toArray, List.set_cons_zero, List.set_cons_succ, i64_w, i32_w]
      rfl
    refine pure_ (i := 3) (N := some 36) (v := ?_) (a' := ?_) #[true, true, false, true, false, false, false, false, false, false, false] rfl rfl (any_of HT_.out (by kernel_rfl)) (fun _ _ _ h => h) (Or.inl ⟨by rfl, ?_⟩) ?_ ?_
    rotate_left
    · intro w'
      go_simp
      with_reducible rfl
    rotate_left
    · simp only [Act.put, List.setIfInBounds_toArray, List.set_cons_zero, List.set_cons_succ, i64_w, i32_w]
      rfl
    refine pure_ (i := 5) (N := some 38) (v := ?_) (a' := ?_) #[true, true, false, true, false, true, false, false, false, false, false] rfl rfl (any_of HT_.out (by kernel_rfl)) (fun _ _ _ h => h) (Or.inl ⟨by rfl, ?_⟩) ?_ ?_
    rotate_left
    · intro w'
      go_simp
      with_reducible rfl
    rotate_left
    · simp only [Act.put, List.setIfInBounds_toArray, List.set_cons_zero, List.set_cons_succ, i64_w, i32_w]
      rfl
    refine pure_ (i := 6) (N := some 39) (v := ?_) (a' := ?_) #[true, true, false, true, false, true, true, false, false, false, false] rfl rfl (any_of HT_.out (by kernel_rfl)) (fun _ _ _ h => h) (Or.inl ⟨by rfl, ?_⟩) ?_ ?_
    rotate_left
    · intro w'
      go_simp
      with_reducible rfl
    rotate_left
    · simp only [Act.put, List.setIfInBounds_toArray, List.set_cons_zero, List.set_cons_succ, i64_w, i32_w]
      rfl
    refine pure_ (i := 7) (N := some 40) (v := ?_) (a' := ?_) #[true, true, false, true, false, true, true, true, false, false, false] rfl rfl (any_of HT_.out (by kernel_rfl)) (fun _ _ _ h => h) (Or.inl ⟨by rfl, ?_⟩) ?_ ?_
    rotate_left
    · intro w'
      go_simp
      with_reducible rfl
    rotate_left
    · simp only [Act.put, List.setIfInBounds_toArray, List.set_cons_zero, List.set_cons_succ, i64_w, i32_w]
      rfl
    refine take_ (i := 4) (N := some 37) (v := ?_) (a' := ?_) #[true, true, false, true, true, true, true, true, false, false, false] rfl rfl (take_ofW HT_.out HW_.out (by kernel_rfl)) (fun _ _ _ h => h) (Or.inl ⟨by rfl, ?_⟩) hHeld ?_ ?_
    rotate_left
    · rintro w' s0
      go_simp
      with_reducible rfl
    rotate_left
    · simp only [Act.put, List.setIfInBounds_toArray, List.set_cons_zero, List.set_cons_succ, i64_w, i32_w]
      rfl
    refine pure_ (i := 8) (N := some 41) (v := ?_) (a' := ?_) #[true, true, false, true, true, true, true, true, true, false, false] rfl rfl (any_of HT_.out (by kernel_rfl)) (fun _ _ _ h => h) (Or.inl ⟨by rfl, ?_⟩) ?_ ?_
    rotate_left
    · intro w'
      go_simp
      with_reducible rfl
    rotate_left
    · simp only [Act.put, List.setIfInBounds_toArray, List.set_cons_zero, List.set_cons_succ, i64_w, i32_w]
      rfl
    refine one_ (i := 2) (N := some 35) #[true, true, true, true, true, true, true, true, true, false, false] rfl rfl (one_of HT_.out (by kernel_rfl)) (by decide) (fun K hK => ?_)
    refine goes_ Try.func20 (by kernel_rfl) rfl #[.slice A7 al.length c7] (by rfl) rfl rfl (by (try simp only [List.map_toArray, List.map_cons, List.map_nil]); first | done | rfl) ?_
    refine (bytes_Clone.calls A7 c7 al al wz HCA.out HAC.out (if_pos HAL.out)).mono ?_
    rintro e wy ⟨vc, rfl, ho0, hb⟩
    refine ⟨_, rfl, ?_⟩
    obtain ⟨Ac, cc, evc⟩ := Kd.R_slice ho0
    subst evc
    have HVC := Aside0.mk (Kd.R_V (base' := 0) (Kd.R_mono (Kd.R_bound ho0) (ok' := fun k => wz.heap.size ≤ k) (fun k hk => hk.2.1)))
    have hlt1 := blk_lt BK1.out
    have hlt2 := blk_lt BH.out
    replace BK0 := Aside0.mk (blk_below BK0.out hb)
    replace BK1 := Aside0.mk (blk_below BK1.out hb)
    replace BH := Aside0.mk (blk_below BH.out hb)
    have HSZ := Aside0.mk HB.out.size
    replace HB := Aside0.mk (below_step HB.out hb)
    refine hK.out _ _ ((blk_cell BK0.out 2).trans rfl) (fun hHeld => ?_)
    clear hK K ho0 hb
    refine norm_ (a' := ?_) ?_ ?_
    rotate_left
    · show Act.put _ (some 35) _ = _
      simp only [Act.put, List.setIfInBounds_toArray, List.set_cons_zero, List.set_cons_succ, i64_w, i32_w]
      rfl
    refine pure_ (i := 9) (N := some 42) (v := ?_) (a' := ?_) #[true, true, true, true, true, true, true, true, true, true, false] rfl rfl (any_of HT_.out (by kernel_rfl)) (fun _ _ _ h => h) (Or.inl ⟨by rfl, ?_⟩) ?_ ?_
    rotate_left
    · intro w'
      go_simp
      with_reducible rfl
    rotate_left
    · simp only [Act.put, List.setIfInBounds_toArray, List.set_cons_zero, List.set_cons_succ, i64_w, i32_w]
      rfl
    refine one_ (i := 10) (N := none) #[true, true, true, true, true, true, true, true, true, true, true] rfl rfl (one_of HT_.out (by kernel_rfl)) (by decide) (fun K hK => ?_)
    have HST := Aside0.mk (run_storeVar_row (P := Try.prog) wy (w.heap.size + 1) 26 26 _ #[.slice (some ⟨g5, 0, none⟩) 8 8, .slice Ac al.length cc, .int .u64 (IntKind.u64.wrap (a0_2 + IntKind.u64.wrap (l1.length : Int)))] BK1.out (by kernel_rfl) rfl (one3 _ _ _ rfl rfl rfl))
    refine skip_ (w1 := wy.setRow (w.heap.size + 1) #[.slice (some ⟨g5, 0, none⟩) 8 8, .slice Ac al.length cc, .int .u64 (IntKind.u64.wrap (a0_2 + IntKind.u64.wrap (l1.length : Int)))]) (by rfl) rfl (storeRow_run HST.out rfl rfl) ?_
    refine hK.out _ _ ((cell_setRow_other _ _ _ _ (by show w.heap.size ≠ w.heap.size + 1; omega)).trans hHeld) (fun hHeld => ?_)
    clear hK K
    refine done_ (done_of HT_.out (by kernel_rfl)) ?_
    go_wp2
    refine bodyPost_ret (results_cell_row rfl _ _ (w.heap.size + 1) 26 #[.slice (some ⟨g5, 0, none⟩) 8 8, .slice Ac al.length cc, .int .u64 (IntKind.u64.wrap (a0_2 + IntKind.u64.wrap (l1.length : Int)))] (0, 0) _ rfl (setRow_heap _ _ _ _ _ _ BK1.out) Try.underlying26 rfl (by kernel_rfl)) rfl ?_
    have hl8 := HH8.out
    have hge := HG5.out
    have hsz := HSZ.out
    have hBH : (wy.setRow (w.heap.size + 1) #[.slice (some ⟨g5, 0, none⟩) 8 8, .slice Ac al.length cc, .int .u64 (IntKind.u64.wrap (a0_2 + IntKind.u64.wrap (l1.length : Int)))]).heap[g5]? = some (.cells (arr32 l0_0) 41 (0, 0)) := (setRow_other _ _ _ _ (by omega)).trans BH.out
    refine ⟨_, _, rfl, ?_, ?_, below_setRow' HB.out (by omega) _⟩
    · rw [HEA1.out]
      exact V_arr32 hl8 hBH (by omega)
    · rw [HEA2.out]
      exact Kd.V_mono (Kd.V_step HVC.out (fun k hk hk2 => setRow_other _ _ _ _ (by omega))) (fun k hk => by omega)
/-- The rounds' constants. -/
def kWords : List Int := [1116352408, 1899447441, 3049323471, 3921009573, 961987163, 1508970993, 2453635748, 2870763221, 3624381080, 310598401, 607225278, 1426881987, 1925078388, 2162078206, 2614888103, 3248222580, 3835390401, 4022224774, 264347078, 604807628, 770255983, 1249150122, 1555081692, 1996064986, 2554220882, 2821834349, 2952996808, 3210313671, 3336571891, 3584528711, 113926993, 338241895, 666307205, 773529912, 1294757372, 1396182291, 1695183700, 1986661051, 2177026350, 2456956037, 2730485921, 2820302411, 3259730800, 3345764771, 3516065817, 3600352804, 4094571909, 275423344, 430227734, 506948616, 659060556, 883997877, 958139571, 1322822218, 1537002063, 1747873779, 1955562222, 2024104815, 2227730452, 2361852424, 2428436474, 2756734187, 3204031479, 3329325298]
theorem kWords_const : sha_constants.f 400 = some kWords := by decide +kernel
def sha_Write.f (l0_0 : List Int) (l0_1 : List Int) (a0_2 : Int) (l1 : List Int) : Option (List Int × List Int × Int) :=
  (sha_Check.f l0_0 l0_1 a0_2).bind fun t => if t = true then (if l0_1.length + l1.length < 140737488355328 then some ((eatV kWords (l0_1 ++ l1).length l0_0 (l0_1 ++ l1)).1, (eatV kWords (l0_1 ++ l1).length l0_0 (l0_1 ++ l1)).2, IntKind.u64.wrap (a0_2 + IntKind.u64.wrap (l1.length : Int))) else none) else some (l0_0, l0_1, a0_2)
theorem sha_Check_len {l0_0 l0_1 : List Int} {a0_2 : Int} (h : sha_Check.f l0_0 l0_1 a0_2 = some true) : l0_0.length = 8 := by
  unfold sha_Check.f at h
  by_cases h8 : (l0_0.length : Int) = 8
  · omega
  · rw [if_neg h8] at h; cases h
theorem sha_Write.calls (P0_0_ : Nat → Prop) (A0_0 : Option Addr) (c0_0 : Nat) (l0_0 : List Int) (P0_1_ : Nat → Prop) (A0_1 : Option Addr) (c0_1 : Nat) (l0_1 : List Int) (a0_2 : Int) (A1 : Option Addr) (c1 : Nat) (l1 : List Int) (r1 : List Int) (r2 : List Int) (r3 : Int) (w : World) (hs0_0 : Kd.V (Kd.int .u32) 39 w w.heap.size (fun k_ => P0_0_ k_) (.slice A0_0 l0_0.length c0_0) l0_0) (hs0_1 : Kd.V (Kd.int .u8) 5 w w.heap.size (fun k_ => P0_1_ k_) (.slice A0_1 l0_1.length c0_1) l0_1) (hr1 : Kd.C (Kd.int .u8) w A1 l1.length l1) (hc1 : l1.length ≤ c1) (h : sha_Write.f l0_0 l0_1 a0_2 l1 = some (r1, r2, r3)) :
    Calls Try.prog 10 #[.agg #[.slice A0_0 l0_0.length c0_0, .slice A0_1 l0_1.length c0_1, .int .u64 a0_2], .slice A1 l1.length c1] w fun e w' => ∃ v0_ v1_ : Value, e = .returned (.agg #[v0_, v1_, .int .u64 r3]) ∧ Kd.V (Kd.int .u32) 39 w' w.heap.size (fun k_ => ((P0_0_ k_ ∨ P0_1_ k_) ∨ w.heap.size ≤ k_)) v0_ r1 ∧ Kd.V (Kd.int .u8) 5 w' w.heap.size (fun k_ => ((P0_0_ k_ ∨ P0_1_ k_) ∨ w.heap.size ≤ k_)) v1_ r2 ∧ Below w.heap.size w w' := by
  have hC0 : Kd.C (Kd.int .u32) w A0_0 l0_0.length l0_0 := (Kd.V_reads' hs0_0).2.2
  have hC1 : Kd.C (Kd.int .u8) w A0_1 l0_1.length l0_1 := (Kd.V_reads' hs0_1).2.2
  unfold sha_Write.f at h
  replace h := Option.bind_eq_some_iff.mp h
  obtain ⟨t, ht, h⟩ := h
  cases t with
  | false =>
    rw [if_neg (by decide)] at h
    simp only [Option.some.injEq, Prod.mk.injEq] at h
    obtain ⟨rfl, rfl, rfl⟩ := h
    refine (sha_Write_no A0_0 c0_0 l0_0 A0_1 c0_1 l0_1 a0_2 A1 c1 l1 w hC0 (Kd.V_reads' hs0_0).2.1 hC1 (Kd.V_reads' hs0_1).2.1 ht).mono ?_
    rintro e w' ⟨rfl, hb⟩
    exact ⟨_, _, rfl, Kd.V_mono (Kd.V_step (Kd.V_bound hs0_0) (fun k hk _ => hb.block k hk.2)) (fun k hk => .inl (.inl hk.1)), Kd.V_mono (Kd.V_step (Kd.V_bound hs0_1) (fun k hk _ => hb.block k hk.2)) (fun k hk => .inl (.inr hk.1)), hb⟩
  | true =>
    rw [if_pos rfl] at h
    by_cases hlen : l0_1.length + l1.length < 140737488355328
    · rw [if_pos hlen] at h
      simp only [Option.some.injEq, Prod.mk.injEq] at h
      obtain ⟨rfl, rfl, rfl⟩ := h
      refine (sha_Write_yes A0_0 c0_0 l0_0 A0_1 c0_1 l0_1 a0_2 A1 c1 l1 w hC0 (Kd.V_reads' hs0_0).2.1 hC1 (Kd.V_reads' hs0_1).2.1 ht hr1 hc1 hlen (sha_Check_len ht) kWords rfl _ rfl (fun w => (sha_constants.calls 400 kWords w kWords_const).mono (fun _ _ h => ⟨h.2.1, h.2.2⟩))).mono ?_
      rintro e w' ⟨v0, v1, rfl, h0, h1, hb⟩
      exact ⟨v0, v1, rfl, Kd.V_mono h0 (fun k hk => .inr hk), Kd.V_mono h1 (fun k hk => .inr hk), hb⟩
    · rw [if_neg hlen] at h; cases h

end Go.Proofs.Ytdhjhcdeeelmhaa.Fn
