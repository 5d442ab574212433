import Derived.Test.YtbnkcbfhappgnaaDoorHx0
namespace Go.Proofs.YtbnkcbfhappgnaaDoor.Fn
set_option maxHeartbeats 8000000
set_option maxRecDepth 100000
open Go.RowKit Go.Proofs.YtbnkcbfhappgnaaDoorW.PrintWords Go.Proofs.YtbnkcbfhappgnaaDoorW.PrintLast Go.Proofs.YtbnkcbfhappgnaaDoorW.PrintMore
attribute [local go_sem] max2_int min2_int max_two min_two max_three min_three max_four min_four
set_option linter.unusedVariables false
set_option linter.unusedSimpArgs false
def bits_RotateLeft32.f (a0 : Int) (a1 : Int) : Option (Int) := if 0 ≤ (Go.bits .and .u64 (IntKind.u64.wrap (a1)) 31) then (if 0 ≤ (IntKind.u64.wrap (32 - (Go.bits .and .u64 (IntKind.u64.wrap (a1)) 31))) then (some (Go.bits .or .u32 (shl .u32 a0 (Go.bits .and .u64 (IntKind.u64.wrap (a1)) 31)) (shr .u32 a0 (IntKind.u64.wrap (32 - (Go.bits .and .u64 (IntKind.u64.wrap (a1)) 31)))))) else (none)) else (none)
theorem bits_RotateLeft32.calls (a0 : Int) (a1 : Int) (r : Int) (w : World) (h : bits_RotateLeft32.f a0 a1 = some r) :
    Calls Tryd.prog 73 #[.int .u32 a0, .int .i64 a1] w fun e w' => e = .returned (.int .u32 r) ∧ Drawn0 w w' := by
 have H : (if 0 ≤ (Go.bits .and .u64 (IntKind.u64.wrap (a1)) 31) then (if 0 ≤ (IntKind.u64.wrap (32 - (Go.bits .and .u64 (IntKind.u64.wrap (a1)) 31))) then (some (Go.bits .or .u32 (shl .u32 a0 (Go.bits .and .u64 (IntKind.u64.wrap (a1)) 31)) (shr .u32 a0 (IntKind.u64.wrap (32 - (Go.bits .and .u64 (IntKind.u64.wrap (a1)) 31)))))) else (none)) else (none)) = some r := h; clear h; obtain ⟨ji3, hji3⟩ : ∃ j_ : Int, (Go.bits .and .u64 (IntKind.u64.wrap (a1)) 31) = j_ := ⟨_, rfl⟩; (replace H : (if 0 ≤ (ji3) then (if 0 ≤ (IntKind.u64.wrap (32 - (ji3))) then (some (Go.bits .or .u32 (shl .u32 a0 (ji3)) (shr .u32 a0 (IntKind.u64.wrap (32 - (ji3)))))) else (none)) else (none)) = some r := by first | (rw [hji3] at H; exact H) | (simp only [hji3] at H ⊢; exact H)); (by_cases c4 : 0 ≤ (ji3)); (· rw [if_pos c4] at H; have c4b0 := eq_true c4; have c4b1 : decide (0 ≤ (ji3)) = true := dT_ c4; clear c4; obtain ⟨ji5, hji5⟩ : ∃ j_ : Int, (shl .u32 a0 (ji3)) = j_ := ⟨_, rfl⟩; (replace H : (if 0 ≤ (IntKind.u64.wrap (32 - (ji3))) then (some (Go.bits .or .u32 (ji5) (shr .u32 a0 (IntKind.u64.wrap (32 - (ji3)))))) else (none)) = some r := by first | (rw [hji5] at H; exact H) | (simp only [hji5] at H ⊢; exact H)); have hji5_ : (IntKind.u32.wrap (a0 * 2 ^ min (ji3).toNat 32)) = ji5 := hji5; have hji5z : (ji3) ≤ 32 → (IntKind.u32.wrap (a0 * 2 ^ (ji3).toNat)) = ji5 := shl_small hji5; obtain ⟨ji6, hji6⟩ : ∃ j_ : Int, (IntKind.u64.wrap (32 - (ji3))) = j_ := ⟨_, rfl⟩; (replace H : (if 0 ≤ (ji6) then (some (Go.bits .or .u32 (ji5) (shr .u32 a0 (ji6)))) else (none)) = some r := by first | (rw [hji6] at H; exact H) | (simp only [hji6] at H ⊢; exact H)); (by_cases c7 : 0 ≤ (ji6)); (· rw [if_pos c7] at H; have c7b0 := eq_true c7; have c7b1 : decide (0 ≤ (ji6)) = true := dT_ c7; clear c7; obtain ⟨ji8, hji8⟩ : ∃ j_ : Int, (shr .u32 a0 (ji6)) = j_ := ⟨_, rfl⟩; (replace H : (some (Go.bits .or .u32 (ji5) (ji8))) = some r := by first | (rw [hji8] at H; exact H) | (simp only [hji8] at H ⊢; exact H)); have hji8_ : (a0 / 2 ^ min (ji6).toNat 32) = ji8 := hji8; have hji8z : (ji6) ≤ 32 → (a0 / 2 ^ (ji6).toNat) = ji8 := shr_small hji8; obtain rfl := oJ_ H; simp only [oI_, pI_] at H; obtain ⟨rfl⟩ := H; (go_enter Tryd.func73, Tryd.ntmps73); go_wp2; go_ret; (exact ⟨by first | rfl | (simp; done) | (simp only [← hji3, ← hji5, ← hji6, ← hji8] <;> (first | rfl | simp)) | (simp [*]; done), by repeat (first | exact Drawn0.refl _ | apply Drawn0.step)⟩)); (· rw [if_neg c7] at H; exact absurd H (by simp))); (· rw [if_neg c4] at H; exact absurd H (by simp))
def bits_Len64.f (a0 : Int) : Option (Int) := if 0 ≤ a0 then (if a0 ≤ 18446744073709551615 then some (Lib.bitLen a0.toNat : Int) else none) else none
set_option maxRecDepth 100000 in
theorem bits_Len64.len8tab_size : (Lib.len8tab.size : Int) = 256 := by
 (have : Lib.len8tab.size = 256 := by decide); omega
theorem bits_Len64.wrap_add (k a b : Nat) (hk : k ≤ 56) (ha : a ≤ 8) (hb : b = k + a) : wrap64 ((k : Int) + wrap64 (a : Int)) = (b : Int) := by
 unfold wrap64; omega
theorem bits_Len64.wrap_wrap (a : Nat) (ha : a ≤ 8) : wrap64 (wrap64 (a : Int)) = (a : Int) := by
 unfold wrap64; omega
theorem bits_Len64.wrap_one (a : Nat) (ha : a ≤ 8) : wrap64 (a : Int) = (a : Int) := by
 unfold wrap64; omega
theorem bits_Len64.len8_get (y : Int) (h : y.toNat < Lib.len8tab.size) : ((Lib.len8tab[y.toNat]'h).toNat : Int) = Lib.len8 y := by
 unfold Lib.len8; rw [getElem?_pos Lib.len8tab y.toNat h]; rfl
set_option maxHeartbeats 32000000 in
set_option maxRecDepth 1000000 in
theorem bits_Len64.calls (x : Int) (r : Int) (w : World) (h : bits_Len64.f x = some r) :
    Calls Tryd.prog 39 #[.int .u64 x] w fun e w' => e = .returned (.int .i64 r) ∧ Drawn0 w w' := by
 unfold bits_Len64.f at h; (by_cases h0 : 0 ≤ x)
 case neg => rw [if_neg h0] at h; cases h
 rw [if_pos h0] at h; (by_cases h1 : x ≤ 18446744073709551615)
 case neg => rw [if_neg h1] at h; cases h
 rw [if_pos h1] at h; obtain rfl := oJ_ h; clear h; (go_enter Tryd.func39, Tryd.ntmps39); go_wp2
 all_goals first
   | (go_ret; refine ⟨congrArg Ending.returned (congrArg (Value.int IntKind.i64) ?_), Drawn0.refl _⟩; go_light)
   | (exfalso
      go_light
      have hs := bits_Len64.len8tab_size
      omega)
 all_goals first
   | (rw [bits_Len64.len8_get (x / 4294967296 / 65536 / 256) _, Lib.len8_of (x / 4294967296 / 65536 / 256) (by omega) (by omega)]
      have e : (x / 4294967296 / 65536 / 256).toNat = x.toNat / 72057594037927936 := by omega
      have l := Lib.bitLen_le8' (x / 4294967296 / 65536 / 256) (by omega) (by omega)
      have s := Lib.bitLen_shift56 x.toNat (by omega) (by omega)
      rw [e] at l ⊢
      exact bits_Len64.wrap_add 56 _ _ (by decide) l s)
   | (rw [bits_Len64.len8_get (x / 4294967296 / 65536) _, Lib.len8_of (x / 4294967296 / 65536) (by omega) (by omega)]
      have e : (x / 4294967296 / 65536).toNat = x.toNat / 281474976710656 := by omega
      have l := Lib.bitLen_le8' (x / 4294967296 / 65536) (by omega) (by omega)
      have s := Lib.bitLen_shift48 x.toNat (by omega) (by omega)
      rw [e] at l ⊢
      exact bits_Len64.wrap_add 48 _ _ (by decide) l s)
   | (rw [bits_Len64.len8_get (x / 4294967296 / 256) _, Lib.len8_of (x / 4294967296 / 256) (by omega) (by omega)]
      have e : (x / 4294967296 / 256).toNat = x.toNat / 1099511627776 := by omega
      have l := Lib.bitLen_le8' (x / 4294967296 / 256) (by omega) (by omega)
      have s := Lib.bitLen_shift40 x.toNat (by omega) (by omega)
      rw [e] at l ⊢
      exact bits_Len64.wrap_add 40 _ _ (by decide) l s)
   | (rw [bits_Len64.len8_get (x / 4294967296) _, Lib.len8_of (x / 4294967296) (by omega) (by omega)]
      have e : (x / 4294967296).toNat = x.toNat / 4294967296 := by omega
      have l := Lib.bitLen_le8' (x / 4294967296) (by omega) (by omega)
      have s := Lib.bitLen_shift32 x.toNat (by omega) (by omega)
      rw [e] at l ⊢
      exact bits_Len64.wrap_add 32 _ _ (by decide) l s)
   | (rw [bits_Len64.len8_get (x / 65536 / 256) _, Lib.len8_of (x / 65536 / 256) (by omega) (by omega)]
      have e : (x / 65536 / 256).toNat = x.toNat / 16777216 := by omega
      have l := Lib.bitLen_le8' (x / 65536 / 256) (by omega) (by omega)
      have s := Lib.bitLen_shift24 x.toNat (by omega) (by omega)
      rw [e] at l ⊢
      exact bits_Len64.wrap_add 24 _ _ (by decide) l s)
   | (rw [bits_Len64.len8_get (x / 65536) _, Lib.len8_of (x / 65536) (by omega) (by omega)]
      have e : (x / 65536).toNat = x.toNat / 65536 := by omega
      have l := Lib.bitLen_le8' (x / 65536) (by omega) (by omega)
      have s := Lib.bitLen_shift16 x.toNat (by omega) (by omega)
      rw [e] at l ⊢
      exact bits_Len64.wrap_add 16 _ _ (by decide) l s)
   | (rw [bits_Len64.len8_get (x / 256) _, Lib.len8_of (x / 256) (by omega) (by omega)]
      have e : (x / 256).toNat = x.toNat / 256 := by omega
      have l := Lib.bitLen_le8' (x / 256) (by omega) (by omega)
      have s := Lib.bitLen_shift8 x.toNat (by omega) (by omega)
      rw [e] at l ⊢
      exact bits_Len64.wrap_add 8 _ _ (by decide) l s)
   | (rw [bits_Len64.len8_get (x) _, Lib.len8_of (x) (by omega) (by omega)]
      have e : (x).toNat = x.toNat := by omega
      have l := Lib.bitLen_le8' (x) (by omega) (by omega)
      rw [e] at l ⊢
      first | exact bits_Len64.wrap_wrap _ l | exact bits_Len64.wrap_add 0 _ _ (by decide) l (by omega) | exact bits_Len64.wrap_one _ l)
def leb_Size.f (a0 : Int) : Option (Int) := (bits_Len64.f a0).bind fun t101 => (some (mx 1 (wrap64 (Int.tdiv (wrap64 ((wrap64 (t101 + 7)) - 1)) 7))))
theorem leb_Size.calls (a0 : Int) (r : Int) (w : World) (h : leb_Size.f a0 = some r) :
    Calls Tryd.prog 24 #[.int .u64 a0] w fun e w' => e = .returned (.int .i64 r) ∧ Below w.heap.size w w' := by
 have HB := aM_ (Below.refl w.heap.size w); have H : ((bits_Len64.f a0).bind fun t101 => (some (mx 1 (wrap64 (Int.tdiv (wrap64 ((wrap64 (t101 + 7)) - 1)) 7))))) = some r := h; clear h; replace H := Option.bind_eq_some_iff.mp H; obtain ⟨t101, A20, H⟩ := H; replace H : (some (mx 1 (wrap64 (Int.tdiv (wrap64 ((wrap64 (t101 + 7)) - 1)) 7)))) = some r := H; have A2 := aM_ A20; clear A20; obtain ⟨ji3, hji3⟩ : ∃ j_ : Int, (mx 1 (wrap64 (Int.tdiv (wrap64 ((wrap64 (t101 + 7)) - 1)) 7))) = j_ := ⟨_, rfl⟩; (replace H : (some ji3) = some r := by first | (rw [hji3] at H; exact H) | (simp only [hji3] at H ⊢; exact H)); (try rw [hji3] at A2); (try (have hji3l : 1 ≤ ji3 := by (rw [← hji3]; unfold mx; (repeat' split) <;> omega))); (try (have hji3m : 0 ≤ ji3 := by omega)); have hji3_ : (if 1 < (wrap64 (Int.tdiv (wrap64 ((wrap64 (t101 + 7)) - 1)) 7)) then (wrap64 (Int.tdiv (wrap64 ((wrap64 (t101 + 7)) - 1)) 7)) else 1) = ji3 := hji3; (try (have hji3_n := hji3_; simp only [Int.ofNat_lt] at hji3_n)); obtain rfl := oJ_ H; simp only [oI_, pI_] at H; obtain ⟨rfl⟩ := H; (go_enter Tryd.func24, Tryd.ntmps24); (go_wp2_with (first | ((with_reducible refine gate_callee (f := 39) rfl ?_); refine goesL_ (some 4) rfl rfl Tryd.func39 (by kernel_rfl) rfl #[.int .u64 a0] rfl (by (try simp only [mA_, mC_, mN_]); first | done | rfl | (simp only [lD_, lT_]; rfl)) ?_; (with_reducible refine (bits_Len64.calls a0 t101 _ A2.out).mono ?_); rintro e w' ⟨rfl, ⟨nd, rfl⟩⟩; refine ⟨_, rfl, ?_⟩))); go_ret; (exact ⟨by first | rfl | (simp [errW_none, errW_some] <;> rfl) | (simp only [← hji3]; first | rfl | (simp [errW_none, errW_some] <;> rfl)) | (simp [*, errW_none, errW_some] <;> rfl), by exact bZ0_ HB.out⟩)
def frame_Size.f (a0 : Int) : Option (Int) := if a0 < 0 then (some 0) else (if a0 > 8192 then (some 0) else ((leb_Size.f (IntKind.u64.wrap (a0))).bind fun t102 => (some (wrap64 ((wrap64 ((wrap64 (2 + t102)) + a0)) + 4)))))
theorem frame_Size.calls (a0 : Int) (r : Int) (w : World) (h : frame_Size.f a0 = some r) :
    Calls Tryd.prog 10 #[.int .i64 a0] w fun e w' => e = .returned (.int .i64 r) ∧ Below w.heap.size w w' := by
 have HB := aM_ (Below.refl w.heap.size w); have H : (if a0 < 0 then (some 0) else (if a0 > 8192 then (some 0) else ((leb_Size.f (IntKind.u64.wrap (a0))).bind fun t102 => (some (wrap64 ((wrap64 ((wrap64 (2 + t102)) + a0)) + 4)))))) = some r := h; clear h; (by_cases c2 : a0 < 0); (· rw [if_pos c2] at H; have c2b0 : decide (a0 < 0) = true := dT_ c2; clear c2; obtain rfl := oJ_ H; simp only [oI_, pI_] at H; obtain ⟨rfl⟩ := H; (go_enter Tryd.func10, Tryd.ntmps10); go_wp2; go_ret; (exact ⟨by first | rfl | (simp [errW_none, errW_some] <;> rfl) | (simp [*, errW_none, errW_some] <;> rfl), by exact bZ0_ HB.out⟩)); (· rw [if_neg c2] at H; have c2b0 : decide (a0 < 0) = false := decide_eq_false c2; clear c2; (by_cases c3 : a0 > 8192); (· rw [if_pos c3] at H; have c3b0 : decide (8192 < a0) = true := dT_ c3; clear c3; obtain rfl := oJ_ H; simp only [oI_, pI_] at H; obtain ⟨rfl⟩ := H; (go_enter Tryd.func10, Tryd.ntmps10); go_wp2; go_ret; (exact ⟨by first | rfl | (simp [errW_none, errW_some] <;> rfl) | (simp [*, errW_none, errW_some] <;> rfl), by exact bZ0_ HB.out⟩)); (· rw [if_neg c3] at H; have c3b0 : decide (8192 < a0) = false := decide_eq_false c3; clear c3; replace H := Option.bind_eq_some_iff.mp H; obtain ⟨t102, A40, H⟩ := H; replace H : (some (wrap64 ((wrap64 ((wrap64 (2 + t102)) + a0)) + 4))) = some r := H; have A4 := aM_ A40; clear A40; obtain rfl := oJ_ H; simp only [oI_, pI_] at H; obtain ⟨rfl⟩ := H; (go_enter Tryd.func10, Tryd.ntmps10); (go_wp2_with (first | ((with_reducible refine gate_callee (f := 24) rfl ?_); refine goesL_ (some 11) rfl rfl Tryd.func24 (by kernel_rfl) rfl #[.int .u64 (IntKind.u64.wrap (a0))] rfl (by (try simp only [mA_, mC_, mN_]); first | done | rfl | (simp only [lD_, lT_]; rfl)) ?_; (with_reducible refine (leb_Size.calls (IntKind.u64.wrap (a0)) t102 _ A4.out).mono ?_); rintro e w5 ⟨rfl, hb⟩; refine ⟨_, rfl, ?_⟩; have n0_ := aM_ (bT_ (bZ0_ HB.out) hb); clear HB; have HB := n0_; clear n0_; (try clear hb); (try clear hb2); (try clear hk); (try clear hi)))); go_ret; (exact ⟨by first | rfl | (simp [errW_none, errW_some] <;> rfl) | (simp [*, errW_none, errW_some] <;> rfl), by exact bZ0_ HB.out⟩)))
def frame_kind.f (a0 : Int) : Option (Bool) := if a0 ≥ 1 then (some (decide (a0 ≤ 4))) else (some false)
theorem frame_kind.calls (a0 : Int) (r : Bool) (w : World) (h : frame_kind.f a0 = some r) :
    Calls Tryd.prog 19 #[.int .i64 a0] w fun e w' => e = .returned (.bool r) ∧ Drawn0 w w' := by
 have H : (if a0 ≥ 1 then (some (decide (a0 ≤ 4))) else (some false)) = some r := h; clear h; (by_cases c2 : a0 ≥ 1); (· rw [if_pos c2] at H; have c2b0 : decide (1 ≤ a0) = true := dT_ c2; clear c2; obtain rfl := oJ_ H; simp only [oI_, pI_] at H; obtain ⟨rfl⟩ := H; (go_enter Tryd.func19, Tryd.ntmps19); go_wp2; go_ret; exact ⟨by first | rfl | (simp; done) | (simp [*]; done), by repeat (first | exact Drawn0.refl _ | apply Drawn0.step)⟩); (· rw [if_neg c2] at H; have c2b0 : decide (1 ≤ a0) = false := decide_eq_false c2; clear c2; obtain rfl := oJ_ H; simp only [oI_, pI_] at H; obtain ⟨rfl⟩ := H; (go_enter Tryd.func19, Tryd.ntmps19); go_wp2; go_ret; exact ⟨by first | rfl | (simp; done) | (simp [*]; done), by repeat (first | exact Drawn0.refl _ | apply Drawn0.step)⟩)
def key_text.l0 : Nat → List Int → List Int → Int → Int → Option (ByteArray)
  | 0, _, _, _, _ => none
  | k + 1, x3, x10, x11, x12 => if x12 < x11 then (if 0 ≤ x12 then (if x12 < (x10.length : Int) then (if 0 ≤ ((rd x10 x12) / 16) then (if ((rd x10 x12) / 16) < 16 then (if 0 ≤ (Go.bits .and .u8 (rd x10 x12) 15) then (if (Go.bits .and .u8 (rd x10 x12) 15) < 16 then ((some (([bt (⟨#[48, 49, 50, 51, 52, 53, 54, 55, 56, 57, 97, 98, 99, 100, 101, 102]⟩ : ByteArray) ((rd x10 x12) / 16), bt (⟨#[48, 49, 50, 51, 52, 53, 54, 55, 56, 57, 97, 98, 99, 100, 101, 102]⟩ : ByteArray) (Go.bits .and .u8 (rd x10 x12) 15)] : List Int) : List Int)).bind fun y107 => (if x3.length + y107.length < 140737488355328 then (key_text.l0 k (x3 ++ y107) x10 x11 (wrap64 (x12 + 1))) else (none))) else (none)) else (none)) else (none)) else (none)) else (none)) else (none)) else (some (strOfNums x3))
def key_text.f (k : Nat) (l0 : List Int) : Option (ByteArray) := if 0 ≤ (wrap64 (2 * (l0.length : Int))) then (if (wrap64 (2 * (l0.length : Int)) : Int).toNat ≤ 281474976710656 then (key_text.l0 k (([] : List Int)) l0 (l0.length : Int) 0) else (none)) else (none)
theorem key_text.mono_l : ∀ k, (∀ y0 y1 y2 y3, LeO (key_text.l0 k y0 y1 y2 y3) (key_text.l0 (k + 1) y0 y1 y2 y3))
  | 0 => fun _ _ _ _ r h => by simp [key_text.l0] at h
  | k + 1 => by
    have ih0 := key_text.mono_l k
    · intro y0 y1 y2 y3
      unfold key_text.l0
      repeat' first
      | (with_reducible exact ih0 _ _ _ _)
      | (with_reducible exact LeO.refl _)
      | (with_reducible exact LeO.none _)
      | (with_reducible refine LeO.ite ?_ ?_)
      | (with_reducible refine LeO.bind ?_ (fun _ => ?_))
      | exact ih0 _ _ _ _
      | exact LeO.none _
      | refine LeO.ite ?_ ?_
      | refine LeO.bind ?_ (fun _ => ?_)
theorem key_text.mono : ∀ a0 k, LeO (key_text.f k a0) (key_text.f (k + 1) a0) := by
 intro a0 k; have ih0 := key_text.mono_l k; unfold key_text.f
 repeat' first
     | (with_reducible exact ih0 _ _ _ _)
     | (with_reducible exact LeO.refl _)
     | (with_reducible exact LeO.none _)
     | (with_reducible refine LeO.ite ?_ ?_)
     | (with_reducible refine LeO.bind ?_ (fun _ => ?_))
     | exact ih0 _ _ _ _
     | exact LeO.none _
     | refine LeO.ite ?_ ?_
     | refine LeO.bind ?_ (fun _ => ?_)
def key_text.T5 : Bool × List (List Nat × List Nat) := (true, [([], []), ([], []), ([1], [1]), ([2], [2]), ([], []), ([4], [4]), ([5], [5]), ([3, 6], [3, 6]), ([0, 7], [0, 7]), ([8, 8, 0, 1, 2, 3, 4, 5, 6, 7, 8], [0, 8])])
def key_text.B5 : List Nat := [0, 0, 2, 6, 0, 16, 48, 126, 255, 511]
theorem key_text.tab5 : rtab .any (opsOf Tryd.f32 5) = key_text.T5 := by kernel_rfl
theorem key_text.bits5 : waitsOk key_text.T5.2 key_text.B5 = true := by kernel_rfl
theorem key_text.calls (k : Nat) (A0 : Option Addr) (c0 : Nat) (l0 : List Int) (r : ByteArray) (w : World) (hr0 : Kd.C (Kd.int .u8) w A0 l0.length l0) (hc0 : l0.length ≤ c0) (h : key_text.f k l0 = some r) :
    Calls Tryd.prog 32 #[.slice A0 l0.length c0] w fun e w' => e = .returned (.string r) ∧ Below w.heap.size w w' := by
 have HR0 := aM_ hr0; have HC0 := aM_ hc0; clear hr0 hc0; have HB := aM_ (Below.refl w.heap.size w); have H : (if 0 ≤ (wrap64 (2 * (l0.length : Int))) then (if (wrap64 (2 * (l0.length : Int)) : Int).toNat ≤ 281474976710656 then (key_text.l0 k (([] : List Int)) l0 (l0.length : Int) 0) else (none)) else (none)) = some r := h; clear h; obtain ⟨ji2, hji2⟩ : ∃ j_ : Int, (wrap64 (2 * (l0.length : Int))) = j_ := ⟨_, rfl⟩; (replace H : (if 0 ≤ (ji2) then (if (ji2 : Int).toNat ≤ 281474976710656 then (key_text.l0 k (([] : List Int)) l0 (l0.length : Int) 0) else (none)) else (none)) = some r := by first | (rw [hji2] at H; exact H) | (simp only [hji2] at H ⊢; exact H)); have hji2w : (IntKind.i64.wrap (2 * (l0.length : Int))) = ji2 := (i64_w _).trans hji2; (by_cases c3 : 0 ≤ (ji2))
 · rw [if_pos c3] at H
   have c3b0 := eq_true c3; have c3b1 : decide (0 ≤ (ji2)) = true := dT_ c3; clear c3; (by_cases c4 : (ji2 : Int).toNat ≤ 281474976710656)
   · rw [if_pos c4] at H
     have c4b0 := eq_true c4; have c4b1 : decide ((ji2 : Int).toNat ≤ 281474976710656) = true := dT_ c4; clear c4; obtain ⟨y103, hy103⟩ : ∃ y_ : List Int, y_ = (([] : List Int)) := ⟨_, rfl⟩; (replace H : (key_text.l0 k y103 l0 (l0.length : Int) 0) = some r := yZ_ H hy103); have Ny103 := aM_ hy103; clear hy103; have H' := aM_ H; clear H; (go_enter Tryd.func32, Tryd.ntmps32); (go_wp2_with (first | ((with_reducible refine gate_dst (N := 9) rfl ?_); refine Kd.R_make0 (Kd.int .u8) _ 5 rfl (N := 9) rfl 22 _ _ rfl ji2 rfl rfl Tryd.underlying22 (.int .u8 0) 1 info5 rfl (by decide) (by omega) 0 (ok := fun _ => True) (okp := fun _ => True) rfl (fun _ hk => hk) trivial (oD_ (by assumption)) (Nat.le_trans (Nat.mul_le_mul_right _ (oD_ (by assumption) : ji2.toNat ≤ 281474976710656)) (by omega)) (Below.refl _ _) (Nat.le_refl _) ?_; intro v104 w5 ho6 hb hg_ hnew_; clear hg_ hnew_; (first | rw [← Ny103.out] at ho6 | (simp only [Int.reduceToNat] at ho6; rw [← Ny103.out] at ho6)); have n0_ := aM_ (Kd.R_lower ho6 (bZ_ (bZ0_ HB.out))); have n1_ := aM_ (bT_ (bZ0_ HB.out) hb); clear HB; have HO105 := n0_; have HB := n1_; clear n0_ n1_; clear hb ho6))); (go_loopg [3, 12] k (fun kq v3 v12 w' => ∃ (x3_1 : List Int) (x12_1 : Int), v12 = .int .i64 x12_1 ∧ Aside0 (key_text.l0 kq x3_1 l0 (l0.length : Int) x12_1 = some r) ∧ Aside0 (kq ≤ k) ∧ Aside0 (Kd.R (Kd.int .u8) 5 w' w.heap.size (fun _ => True) v3 x3_1) ∧ Aside0 (Below w.heap.size w w')))
     case atStart => exact ⟨(y103), (0), (by first | rfl | (simp; done) | (simp [*]; done)), H', ⟨Nat.le_refl _⟩, ⟨rZ_ HO105.out⟩, ⟨bZ0_ HB.out⟩⟩
     case round =>
      clear H'; (try clear p2); (try clear c3); (try clear c3b0); (try clear c3b1); (try clear c4); (try clear c4b0); (try clear c4b1); (try clear p6); obtain ⟨x3_1, x12_1, rfl, HA, HK1, HO_3, HB⟩ := hrel
      cases gk with
      | zero => exact absurd HA.out (by simp [key_text.l0])
      | succ k1 =>
       have H := HA.out; clear HA; simp only [key_text.l0] at H; (by_cases c7 : x12_1 < (l0.length : Int))
       · rw [if_pos c7] at H
         have c7b0 : decide (x12_1 < (l0.length : Int)) = true := dT_ c7; clear c7; (by_cases c8 : 0 ≤ x12_1)
         · rw [if_pos c8] at H
           have c8b0 : decide (0 ≤ x12_1) = true := dT_ c8; clear c8; (by_cases c9 : x12_1 < (l0.length : Int))
           · rw [if_pos c9] at H
             have c9b0 : decide (x12_1 < (l0.length : Int)) = true := dT_ c9; clear c9; obtain ⟨ji10, hji10⟩ : ∃ j_ : Int, ((rd l0 x12_1) / 16) = j_ := ⟨_, rfl⟩; (replace H : (if 0 ≤ (ji10) then (if (ji10) < 16 then (if 0 ≤ (Go.bits .and .u8 (rd l0 x12_1) 15) then (if (Go.bits .and .u8 (rd l0 x12_1) 15) < 16 then ((some (([bt (⟨#[48, 49, 50, 51, 52, 53, 54, 55, 56, 57, 97, 98, 99, 100, 101, 102]⟩ : ByteArray) (ji10), bt (⟨#[48, 49, 50, 51, 52, 53, 54, 55, 56, 57, 97, 98, 99, 100, 101, 102]⟩ : ByteArray) (Go.bits .and .u8 (rd l0 x12_1) 15)] : List Int) : List Int)).bind fun y107 => (if x3_1.length + y107.length < 140737488355328 then (key_text.l0 k1 (x3_1 ++ y107) l0 (l0.length : Int) (wrap64 (x12_1 + 1))) else (none))) else (none)) else (none)) else (none)) else (none)) = some r := by first | (rw [hji10] at H; exact H) | (simp only [hji10] at H ⊢; exact H)); (by_cases c11 : 0 ≤ (ji10))
             · rw [if_pos c11] at H
               have c11b0 : decide (0 ≤ (ji10)) = true := dT_ c11; clear c11; (by_cases c12 : (ji10) < 16)
               · rw [if_pos c12] at H
                 have c12b0 : decide ((ji10) < 16) = true := dT_ c12; clear c12; (by_cases c14 : 0 ≤ (Go.bits .and .u8 (rd l0 x12_1) 15))
                 · rw [if_pos c14] at H
                   have c14b0 : decide (0 ≤ (Go.bits .and .u8 (rd l0 x12_1) 15)) = true := dT_ c14; clear c14; (by_cases c15 : (Go.bits .and .u8 (rd l0 x12_1) 15) < 16)
                   · rw [if_pos c15] at H
                     have c15b0 : decide ((Go.bits .and .u8 (rd l0 x12_1) 15) < 16) = true := dT_ c15; clear c15; obtain ⟨y107, hy107⟩ : ∃ y_ : List Int, y_ = (([bt (⟨#[48, 49, 50, 51, 52, 53, 54, 55, 56, 57, 97, 98, 99, 100, 101, 102]⟩ : ByteArray) (ji10), bt (⟨#[48, 49, 50, 51, 52, 53, 54, 55, 56, 57, 97, 98, 99, 100, 101, 102]⟩ : ByteArray) (Go.bits .and .u8 (rd l0 x12_1) 15)] : List Int)) := ⟨_, rfl⟩; (replace H : (if x3_1.length + y107.length < 140737488355328 then (key_text.l0 k1 (x3_1 ++ y107) l0 (l0.length : Int) (wrap64 (x12_1 + 1))) else (none)) = some r := yZ_ H hy107); have Ny107 := aM_ hy107; clear hy107; (by_cases c17 : x3_1.length + y107.length < 140737488355328)
                     · rw [if_pos c17] at H
                       have LMc17 := aM_ c17; clear c17; obtain ⟨y110, hy110⟩ : ∃ y_ : List Int, y_ = (x3_1 ++ y107) := ⟨_, rfl⟩; (replace H : (key_text.l0 k1 y110 l0 (l0.length : Int) (wrap64 (x12_1 + 1))) = some r := yZ_ H hy110); have Ny110 := aM_ hy110; clear hy110; have H' := aM_ H; clear H; have p106 : 0 ≤ (x12_1 : Int) := oD_ (by assumption); have q106 : x12_1 < (l0.length : Int) := oD_ (by assumption); obtain ⟨ad106, e106, hx106_0⟩ := Kd.at_int HR0.out x12_1 p106 q106; (cases e106); replace hx106_0 := (HB.out.cell (lC_ w _ hx106_0)).trans hx106_0; replace p106 := eq_true p106; replace q106 := eq_true q106; (try go_wp2); have n0_ := aM_ (rD_ HO_3.out); have n1_ := aM_ (bD_ HB.out); clear HO_3; clear HB; have HO_3 := n0_; have HB := n1_; clear n0_ n1_; have p13 : 0 ≤ ((ji10) : Int) := oD_ (by assumption); have q13 : (ji10) < (16 : Int) := oD_ (by assumption); have hx13 := bt_at (⟨#[48, 49, 50, 51, 52, 53, 54, 55, 56, 57, 97, 98, 99, 100, 101, 102]⟩ : ByteArray) (ji10); replace p13 := eq_true p13; replace q13 := eq_true q13; have p16 : 0 ≤ ((Go.bits .and .u8 (rd l0 x12_1) 15) : Int) := oD_ (by assumption); have q16 : (Go.bits .and .u8 (rd l0 x12_1) 15) < (16 : Int) := oD_ (by assumption); have hx16 := bt_at (⟨#[48, 49, 50, 51, 52, 53, 54, 55, 56, 57, 97, 98, 99, 100, 101, 102]⟩ : ByteArray) (Go.bits .and .u8 (rd l0 x12_1) 15); replace p16 := eq_true p16; replace q16 := eq_true q16; refine start_ (n := 10) (S := fun w' => True) (ds := []) (mB_ 10 0) (by kernel_rfl) rfl rfl trivial (fun hHeld => ?_); refine with_tabW key_text.tab5 key_text.bits5 (fun HT_ HW_ => ?_); generalize wr.drew = w18 at HO_3 HB hHeld ⊢; refine pz_ (i := 0) (N := some 16) (mB_ 10 1) (any_of HT_.out (by kernel_rfl)) (h := ?_); refine pz_ (i := 1) (N := some 17) (mB_ 10 3) (any_of HT_.out (by kernel_rfl)) (h := ?_); refine pure_ (i := 2) (N := some 18) (v := ?_) (a' := ?_) (mB_ 10 7) rfl rfl (any_of HT_.out (by kernel_rfl)) (fun _ _ _ h => h) (Or.inl ⟨by rfl, ?_⟩) ?_ ?_
                       rotate_left; (· intro w'; go_simp; (with_reducible rfl)); rotate_left; (· simp only [Act.put, pU_]; rfl); refine pz_ (i := 4) (N := some 20) (mB_ 10 23) (any_of HT_.out (by kernel_rfl)) (h := ?_); refine pz_ (i := 5) (N := some 21) (mB_ 10 55) (any_of HT_.out (by kernel_rfl)) (h := ?_); refine take_ (i := 3) (N := some 19) (v := ?_) (a' := ?_) (mB_ 10 63) rfl rfl (take_ofW HT_.out HW_.out (by kernel_rfl)) (fun _ _ _ h => h) (Or.inl ⟨by rfl, ?_⟩) hHeld ?_ ?_; rotate_left; (· intro w' _; go_simp; (with_reducible rfl)); rotate_left; (· simp only [Act.put, pU_]; rfl); refine take_ (i := 6) (N := some 22) (v := ?_) (a' := ?_) (mB_ 10 127) rfl rfl (take_ofW HT_.out HW_.out (by kernel_rfl)) (fun _ _ _ h => h) (Or.inl ⟨by rfl, ?_⟩) hHeld ?_ ?_; rotate_left; (· intro w' _; go_simp; (with_reducible rfl)); rotate_left; (· simp only [Act.put, pU_]; rfl); refine one_ (i := 7) (N := some 23) (mB_ 10 255) rfl rfl (one_of HT_.out (by kernel_rfl)) (by decide) (fun K hK => ?_)
                       refine Kd.R_lit_step (Kd.int .u8) _ 5 ?hg (N := 23) ?hd (xs := ([bt (⟨#[48, 49, 50, 51, 52, 53, 54, 55, 56, 57, 97, 98, 99, 100, 101, 102]⟩ : ByteArray) (ji10), bt (⟨#[48, 49, 50, 51, 52, 53, 54, 55, 56, 57, 97, 98, 99, 100, 101, 102]⟩ : ByteArray) (Go.bits .and .u8 (rd l0 x12_1) 15)] : List Int)) (inner := [.int .u8 (bt (⟨#[48, 49, 50, 51, 52, 53, 54, 55, 56, 57, 97, 98, 99, 100, 101, 102]⟩ : ByteArray) (ji10)), .int .u8 (bt (⟨#[48, 49, 50, 51, 52, 53, 54, 55, 56, 57, 97, 98, 99, 100, 101, 102]⟩ : ByteArray) (Go.bits .and .u8 (rd l0 x12_1) 15))]) (ok := fun _ => True) (okp := fun _ => True) ?hr ?hp (fun _ hk => hk) trivial (Below.refl _ _) (Nat.le_refl _) (by simp) ?_; (case hd => rfl); (case hg => rfl); (case hr => first | (go_simp; done) | (go_simp; rfl)); (case hp => exact (Reps.one (show Kd.M (Kd.int .u8) _ _ _ (bt (⟨#[48, 49, 50, 51, 52, 53, 54, 55, 56, 57, 97, 98, 99, 100, 101, 102]⟩ : ByteArray) (ji10)) [.int .u8 (bt (⟨#[48, 49, 50, 51, 52, 53, 54, 55, 56, 57, 97, 98, 99, 100, 101, 102]⟩ : ByteArray) (ji10))] from rfl) (Reps.one (show Kd.M (Kd.int .u8) _ _ _ (bt (⟨#[48, 49, 50, 51, 52, 53, 54, 55, 56, 57, 97, 98, 99, 100, 101, 102]⟩ : ByteArray) (Go.bits .and .u8 (rd l0 x12_1) 15)) [.int .u8 (bt (⟨#[48, 49, 50, 51, 52, 53, 54, 55, 56, 57, 97, 98, 99, 100, 101, 102]⟩ : ByteArray) (Go.bits .and .u8 (rd l0 x12_1) 15))] from rfl) (Reps.none _ _))))
                       intro v108 w19 ho20 hb hg_ hnew_; clear hg_ hnew_; (first | rw [← Ny107.out] at ho20 | (simp only [Int.reduceToNat] at ho20; rw [← Ny107.out] at ho20)); have n0_ := aM_ (Kd.R_elder' (rZ_ HO_3.out) (Kd.R_base ho20) hb); have n1_ := aM_ (Kd.R_lower (Kd.R_new' ho20 (Kd.R_lt (rZ_ HO_3.out))) (bZ_ (bZ0_ HB.out))); have n2_ := aM_ (bT_ (bZ0_ HB.out) hb); clear HO_3; clear HB; have HO_3 := n0_; have HO109 := n1_; have HB := n2_; clear n0_ n1_ n2_; clear hb ho20; obtain ⟨Ao22, co22, eo22⟩ := Kd.R_slice HO109.out; (first | subst eo22 | (injection eo22 with f1_ f2_ f3_; have f4_ := f1_.symm; have f5_ := f3_.symm; clear f1_ f2_ f3_; subst f4_; subst f5_)); refine hK.out _ _ trivial (fun hHeld => ?_); clear hK K; refine norm_ (a' := ?_) ?_ ?_; rotate_left; (· show Act.put _ (some 23) _ = _; simp only [Act.put, pU_]; rfl); refine one_ (i := 8) (N := some 24) (mB_ 10 511) rfl rfl (one_of HT_.out (by kernel_rfl)) (by decide) (fun K hK => ?_); refine Kd.R_append_rows_step (Kd.int .u8) (w0 := w) w.heap.size (by rfl) (.tmp 16) (.tmp 23) 22 5 (.int .u8 0) 1 rfl Tryd.underlying22 info5 rfl (by decide) (by omega) u3 x3_1 y107 _ _ _ (fun k_ => some k_ ≠ (.slice Ao22 y107.length co22 : Value).ownBlock) (fun _ => False) rfl rfl ?aO ?aR (fun _ _ h => h) (fun _ h => h.elim) ?aF ?aB ?aS ?aL ?_; (case aR => repeat (first | exact (rR_ HO109.out).2.2 | (with_reducible refine Kd.C_alloc ?_ _) | (with_reducible refine Kd.C_drewN ?_ _) | (with_reducible refine Kd.C_drew ?_))); (case aB => exact (bZ0_ HB.out)); (case aF => exact (fun k_ hk => Kd.fresh' (Kd.R_lt (rZ_ HO109.out)) k_ hk)); (case aO => exact (by (with_reducible repeat (first | apply rA_ | apply rN_ | apply rD_)); exact Kd.R_mono HO_3.out (fun _ hk => hk.2))); (case aS => exact (bZ_ (bZ0_ HB.out))); (case aL => have := LMc17.out; omega); intro v111 w21 ho hb hg hat; rw [← Ny110.out] at ho; have n0_ := aM_ (Kd.R_after (ok := (fun _ => True)) (rZ_ HO109.out) hg hat); have n1_ := aM_ (hb)
                       have n2_ := aM_ (ho); clear HO109; clear HB; clear HO_3; have HO109 := n0_; have HB := n1_; have HO112 := n2_; clear n0_ n1_ n2_; clear ho hb hg hat; refine hK.out _ _ trivial (fun hHeld => ?_); clear hK K; refine norm_ (a' := ?_) ?_ ?_; rotate_left; (· show Act.put _ (some 24) _ = _; simp only [Act.put, pU_]; rfl); refine pz_ (i := 9) (N := some 3) (mB_ 10 1023) (any_of HT_.out (by kernel_rfl)) (h := ?_); refine done_ (done_of HT_.out (by kernel_rfl)) ?_; (try go_wp2); (go_roundg k1)
                       case measure => have := HK1.out; omega
                       case rel => exact ⟨(y110), (wrap64 (x12_1 + 1)), (by first | rfl | (simp; done) | (simp [*]; done)), H', ⟨by have := HK1.out; omega⟩, ⟨by (with_reducible repeat (first | apply rA_ | apply rN_ | apply rD_)); exact Kd.R_mono HO112.out (fun _ hk => trivial)⟩, ⟨bZ0_ HB.out⟩⟩
                     (· rw [if_neg c17] at H; exact absurd H (by simp))
                   (· rw [if_neg c15] at H; exact absurd H (by simp))
                 (· rw [if_neg c14] at H; exact absurd H (by simp))
               (· rw [if_neg c12] at H; exact absurd H (by simp))
             (· rw [if_neg c11] at H; exact absurd H (by simp))
           (· rw [if_neg c9] at H; exact absurd H (by simp))
         (· rw [if_neg c8] at H; exact absurd H (by simp))
       (· rw [if_neg c7] at H; have c7b0 : decide (x12_1 < (l0.length : Int)) = false := decide_eq_false c7; clear c7; obtain rfl := oJ_ H; simp only [oI_, pI_] at H; obtain ⟨rfl⟩ := H; have hcv23 := own_string (P := Tryd.prog) Tryd.underlying22 Tryd.underlying5 Tryd.underlying27 (Kd.own_of_R HO_3.out); go_wp2; go_ret; (exact ⟨by first | rfl | (simp [errW_none, errW_some] <;> rfl) | (simp only [← hji2]; first | rfl | (simp [errW_none, errW_some] <;> rfl)) | (simp [*, errW_none, errW_some] <;> rfl), by exact bZ0_ HB.out⟩))
   (· rw [if_neg c4] at H; exact absurd H (by simp))
 (· rw [if_neg c3] at H; exact absurd H (by simp))
def sha_Check.f (l0_0 : List Int) (l0_1 : List Int) (a0_2 : Int) : Option (Bool) := if (l0_0.length : Int) = 8 then (if (l0_1.length : Int) < 64 then (some ((IntKind.u64.wrap ((l0_1.length : Int))) == (Int.tmod a0_2 64))) else (some false)) else (some false)
theorem sha_Check.calls (A0_0 : Option Addr) (c0_0 : Nat) (l0_0 : List Int) (A0_1 : Option Addr) (c0_1 : Nat) (l0_1 : List Int) (a0_2 : Int) (r : Bool) (w : World) (hr0_0 : Kd.C (Kd.int .u32) w A0_0 l0_0.length l0_0) (hc0_0 : l0_0.length ≤ c0_0) (hr0_1 : Kd.C (Kd.int .u8) w A0_1 l0_1.length l0_1) (hc0_1 : l0_1.length ≤ c0_1) (h : sha_Check.f l0_0 l0_1 a0_2 = some r) :
    Calls Tryd.prog 50 #[.agg #[.slice A0_0 l0_0.length c0_0, .slice A0_1 l0_1.length c0_1, .int .u64 a0_2]] w fun e w' => e = .returned (.bool r) ∧ Below w.heap.size w w' := by
 have hu65 := Tryd.underlying65; have HR0_0 := aM_ hr0_0; have HC0_0 := aM_ hc0_0; clear hr0_0 hc0_0; have HR0_1 := aM_ hr0_1; have HC0_1 := aM_ hc0_1; clear hr0_1 hc0_1; have HB := aM_ (Below.refl w.heap.size w); have H : (if (l0_0.length : Int) = 8 then (if (l0_1.length : Int) < 64 then (some ((IntKind.u64.wrap ((l0_1.length : Int))) == (Int.tmod a0_2 64))) else (some false)) else (some false)) = some r := h; clear h; (by_cases c2 : (l0_0.length : Int) = 8)
 · rw [if_pos c2] at H
   have c2b0 : ((l0_0.length : Int) == 8) = true := beq_iff_eq.mpr c2; have c2b1 : ((l0_0.length : Int) != 8) = false := bne_eq_false_iff_eq.mpr c2; clear c2; (by_cases c3 : (l0_1.length : Int) < 64)
   · rw [if_pos c3] at H
     have c3b0 : decide ((l0_1.length : Int) < 64) = true := dT_ c3; have c3b1 : decide (l0_1.length < 64) = true := dT_ (by omega); clear c3; obtain rfl := oJ_ H; simp only [oI_, pI_] at H; obtain ⟨rfl⟩ := H; (go_enter Tryd.func50, Tryd.ntmps50)
     go_wp2_with (first | ((with_reducible refine gate_dst (N := 1) rfl ?_); (try (refine gate_guard (by rfl) ?_; dsimp only)); refine box_event ?hg (N := 1) ?hd (cs := #[.slice A0_0 l0_0.length c0_0, .slice A0_1 l0_1.length c0_1, .int .u64 a0_2]) (t := 65) ?hr ?_; (case hd => rfl); (case hg => rfl); (case hr => first | (go_simp; done) | (go_simp; rfl)); intro gb113 hg w4 hbox hb; have n0_ := aM_ (bT_ (bZ0_ HB.out) hb); have n1_ := aM_ (hbox); have n2_ := aM_ ((by rw [hg]; exact (bZ_ (bZ0_ HB.out)) : w.heap.size ≤ gb113)); have n3_ := aM_ ((by rw [hg]; exact (bZ_ (bZ0_ HB.out)) : w.heap.size ≤ gb113)); clear HB; have HB := n0_; have BK113 := n1_; have GW113 := n2_; have GE113 := n3_; clear n0_ n1_ n2_ n3_; clear hb hbox hg; obtain ⟨hcz5_0, hcz5_1, hcz5_2, hfz5_0, hfz5_1, hfz5_2⟩ := k6_ BK113.out))
     go_ret; (exact ⟨by first | rfl | (simp [errW_none, errW_some] <;> rfl) | (simp [*, errW_none, errW_some] <;> rfl), by exact bZ1_ HB.out GE113.out⟩)
   · rw [if_neg c3] at H
     have c3b0 : decide ((l0_1.length : Int) < 64) = false := decide_eq_false c3; have c3b1 : decide (l0_1.length < 64) = false := decide_eq_false (by omega); clear c3; obtain rfl := oJ_ H; simp only [oI_, pI_] at H; obtain ⟨rfl⟩ := H; (go_enter Tryd.func50, Tryd.ntmps50)
     go_wp2_with (first | ((with_reducible refine gate_dst (N := 1) rfl ?_); (try (refine gate_guard (by rfl) ?_; dsimp only)); refine box_event ?hg (N := 1) ?hd (cs := #[.slice A0_0 l0_0.length c0_0, .slice A0_1 l0_1.length c0_1, .int .u64 a0_2]) (t := 65) ?hr ?_; (case hd => rfl); (case hg => rfl); (case hr => first | (go_simp; done) | (go_simp; rfl)); intro gb113 hg w6 hbox hb; have n0_ := aM_ (bT_ (bZ0_ HB.out) hb); have n1_ := aM_ (hbox); have n2_ := aM_ ((by rw [hg]; exact (bZ_ (bZ0_ HB.out)) : w.heap.size ≤ gb113)); have n3_ := aM_ ((by rw [hg]; exact (bZ_ (bZ0_ HB.out)) : w.heap.size ≤ gb113)); clear HB; have HB := n0_; have BK113 := n1_; have GW113 := n2_; have GE113 := n3_; clear n0_ n1_ n2_ n3_; clear hb hbox hg; obtain ⟨hcz7_0, hcz7_1, hcz7_2, hfz7_0, hfz7_1, hfz7_2⟩ := k6_ BK113.out))
     go_ret; (exact ⟨by first | rfl | (simp [errW_none, errW_some] <;> rfl) | (simp [*, errW_none, errW_some] <;> rfl), by exact bZ1_ HB.out GE113.out⟩)
 · rw [if_neg c2] at H
   have c2b0 : ((l0_0.length : Int) == 8) = false := beq_eq_false_iff_ne.mpr c2; have c2b1 : ((l0_0.length : Int) != 8) = true := bne_iff_ne.mpr c2; obtain rfl := oJ_ H; simp only [oI_, pI_] at H; obtain ⟨rfl⟩ := H; (go_enter Tryd.func50, Tryd.ntmps50)
   go_wp2_with (first | ((with_reducible refine gate_dst (N := 1) rfl ?_); (try (refine gate_guard (by rfl) ?_; dsimp only)); refine box_event ?hg (N := 1) ?hd (cs := #[.slice A0_0 l0_0.length c0_0, .slice A0_1 l0_1.length c0_1, .int .u64 a0_2]) (t := 65) ?hr ?_; (case hd => rfl); (case hg => rfl); (case hr => first | (go_simp; done) | (go_simp; rfl)); intro gb113 hg w8 hbox hb; have n0_ := aM_ (bT_ (bZ0_ HB.out) hb); have n1_ := aM_ (hbox); have n2_ := aM_ ((by rw [hg]; exact (bZ_ (bZ0_ HB.out)) : w.heap.size ≤ gb113)); have n3_ := aM_ ((by rw [hg]; exact (bZ_ (bZ0_ HB.out)) : w.heap.size ≤ gb113)); clear HB; have HB := n0_; have BK113 := n1_; have GW113 := n2_; have GE113 := n3_; clear n0_ n1_ n2_ n3_; clear hb hbox hg; obtain ⟨hcz9_0, hcz9_1, hcz9_2, hfz9_0, hfz9_1, hfz9_2⟩ := k6_ BK113.out))
   go_ret; (exact ⟨by first | rfl | (simp [errW_none, errW_some] <;> rfl) | (simp [*, errW_none, errW_some] <;> rfl), by exact bZ1_ HB.out GE113.out⟩)
def bytes_Clone.f (l0 : List Int) : Option (List Int) := if l0.length < 140737488355328 then some l0 else none
set_option maxHeartbeats 4000000 in
theorem bytes_Clone.calls (A0 : Option Addr) (c0 : Nat) (l0 : List Int) (r : List Int) (w : World) (hr0 : Kd.C (Kd.int .u8) w A0 l0.length l0) (hc0 : l0.length ≤ c0) (h : bytes_Clone.f l0 = some r) :
    Calls Tryd.prog 51 #[.slice A0 l0.length c0] w fun e w' => ∃ v0_ : Value, e = .returned (v0_) ∧ Kd.R (Kd.int .u8) 5 w' w.heap.size (fun _ => True) v0_ r ∧ Below w.heap.size w w' := by
 have HB := aM_ (Below.refl w.heap.size w); unfold bytes_Clone.f at h; (by_cases c1 : l0.length < 140737488355328)
 · rw [if_pos c1] at h
   obtain rfl := oJ_ h; clear h; (by_cases hA : A0 = none)
   · subst hA
     have hl : l0 = [] := by
      cases l0 with
      | nil => rfl
      | cons x xs =>
       obtain ⟨ad, he, _⟩ := hr0.2.2 (by simp); (cases he)
     subst hl; have heq := fun w => Lib.run_eql_slice_nil (P := Tryd.prog) w 22 5 none 0 c0 0 0 Tryd.underlying22; have HR0 := aM_ hr0; clear hr0 hc0 c1; (go_enter Tryd.func51, Tryd.ntmps51); go_wp2; go_ret; exact ⟨_, rfl, Kd.R_nil _ _ _ _ _, by exact bZ0_ HB.out⟩
   · obtain ⟨a, rfl⟩ := Option.ne_none_iff_exists'.mp hA
     clear hA; have heq := fun w => Lib.run_eql_slice_nil (P := Tryd.prog) w 22 5 (some a) l0.length c0 0 0 Tryd.underlying22; simp only [Option.isNone_some] at heq; have HR0 := aM_ hr0; have HC0 := aM_ hc0; have LM := aM_ c1; clear hr0 hc0 c1; obtain ⟨y1, hy1⟩ : ∃ y_ : List Int, y_ = ([] : List Int) := ⟨_, rfl⟩; have Ny1 := aM_ hy1; clear hy1; obtain ⟨y2, hy2⟩ : ∃ y_ : List Int, y_ = y1 ++ l0 := ⟨_, rfl⟩; have Ny2 := aM_ hy2; clear hy2; (go_enter Tryd.func51, Tryd.ntmps51)
     go_wp2_with (first | ((with_reducible refine gate_dst (N := 5) rfl ?_); refine Kd.R_lit (Kd.int .u8) _ 5 ?hg (N := 5) ?hd (xs := ([] : List Int)) (inner := []) (ok := fun _ => True) (okp := fun _ => True) ?hr ?hp (fun _ hk => hk) trivial (Below.refl _ _) (Nat.le_refl _) (by simp) ?_; (case hd => rfl); (case hg => rfl); (case hr => first | (go_simp; done) | (go_simp; rfl)); (case hp => exact (Reps.none _ _)); intro v1 w5 ho6 hb hg_ hnew_; clear hg_ hnew_; rw [← Ny1.out] at ho6; have n0_ := aM_ (Kd.R_lower ho6 (bZ_ (bZ0_ HB.out))); have n1_ := aM_ (bT_ (bZ0_ HB.out) hb); clear HB; have HO1 := n0_; have HB := n1_; clear n0_ n1_; clear hb ho6) | ((with_reducible refine gate_builtin (b := .append) (xs := #[.tmp 5, .tmp 6]) rfl ?_); at_builtin; refine Kd.R_append_rows (Kd.int .u8) (w0 := w) w.heap.size rfl (.tmp 5) (.tmp 6) 22 5 (.int .u8 0) 1 rfl Tryd.underlying22 info5 rfl (by decide) (by omega) v1 y1 l0 _ _ _ (fun _ => True) (fun _ => False) rfl rfl ?aO ?aR (fun _ _ h => h) (fun _ h => h.elim) ?aF ?aB ?aS ?aL ?_; (case aR => repeat (first | exact (Kd.C_below HR0.out HB.out) | (with_reducible refine Kd.C_alloc ?_ _) | (with_reducible refine Kd.C_drewN ?_ _) | (with_reducible refine Kd.C_drew ?_))); (case aB => exact (bZ0_ HB.out)); (case aF => exact (fun _ _ => trivial)); (case aO => exact (rZ_ HO1.out)); (case aS => exact (bZ_ (bZ0_ HB.out))); (case aL => have := LM.out; have := Ny1.out; subst this; simp; omega); intro v2 w7 ho hb hg hat; rw [← Ny2.out] at ho; have n0_ := aM_ hb; have n1_ := aM_ ho; clear HB; clear HO1; have HB := n0_; have HO2 := n1_; clear n0_ n1_; clear ho hb hg hat))
     go_ret; (have hfin : y2 = l0 := by rw [Ny2.out, Ny1.out]; rfl); exact ⟨_, rfl, by (with_reducible repeat (first | apply rA_ | apply rN_ | apply rD_)); rw [← hfin]; exact Kd.R_mono HO2.out (fun _ hk => trivial), by exact bZ0_ HB.out⟩
 (· rw [if_neg c1] at h; exact absurd h (by simp))
def sha_has.l0 : Nat → Int → List Int → Int → Int → Option (Bool)
  | 0, _, _, _, _ => none
  | k + 1, x1, x7, x8, x9 => if x9 < x8 then (if 0 ≤ x9 then (if x9 < (x7.length : Int) then (if (rd x7 x9) = 0 then (none) else (if (Int.tmod x1 (rd x7 x9)) = 0 then (some true) else (sha_has.l0 k x1 x7 x8 (wrap64 (x9 + 1))))) else (none)) else (none)) else (some false)
def sha_has.f (k : Nat) (l0 : List Int) (a1 : Int) : Option (Bool) := sha_has.l0 k a1 l0 (l0.length : Int) 0
theorem sha_has.mono_l : ∀ k, (∀ y0 y1 y2 y3, LeO (sha_has.l0 k y0 y1 y2 y3) (sha_has.l0 (k + 1) y0 y1 y2 y3))
  | 0 => fun _ _ _ _ r h => by simp [sha_has.l0] at h
  | k + 1 => by
    have ih0 := sha_has.mono_l k
    · intro y0 y1 y2 y3
      unfold sha_has.l0
      repeat' first
      | (with_reducible exact ih0 _ _ _ _)
      | (with_reducible exact LeO.refl _)
      | (with_reducible exact LeO.none _)
      | (with_reducible refine LeO.ite ?_ ?_)
      | (with_reducible refine LeO.bind ?_ (fun _ => ?_))
      | exact ih0 _ _ _ _
      | exact LeO.none _
      | refine LeO.ite ?_ ?_
      | refine LeO.bind ?_ (fun _ => ?_)
theorem sha_has.mono : ∀ a0 a1 k, LeO (sha_has.f k a0 a1) (sha_has.f (k + 1) a0 a1) := by
 intro a0 a1 k; have ih0 := sha_has.mono_l k; unfold sha_has.f
 repeat' first
     | (with_reducible exact ih0 _ _ _ _)
     | (with_reducible exact LeO.refl _)
     | (with_reducible exact LeO.none _)
     | (with_reducible refine LeO.ite ?_ ?_)
     | (with_reducible refine LeO.bind ?_ (fun _ => ?_))
     | exact ih0 _ _ _ _
     | exact LeO.none _
     | refine LeO.ite ?_ ?_
     | refine LeO.bind ?_ (fun _ => ?_)
def sha_primes.l0 : Nat → Int → List Int → Int → Option (List Int)
  | 0, _, _, _ => none
  | k + 1, x0, x3, x4 => if (x3.length : Int) < x0 then ((sha_has.f k x3 x4).bind fun t103 => (if t103 = true then (sha_primes.l0 k x0 x3 (IntKind.u64.wrap (x4 + 1))) else (if x3.length < 17592186044416 then (sha_primes.l0 k x0 (x3 ++ [x4]) (IntKind.u64.wrap (x4 + 1))) else (none)))) else (some x3)
def sha_primes.f (k : Nat) (a0 : Int) : Option (List Int) := sha_primes.l0 k a0 ([] : List Int) 2
theorem sha_primes.mono_l : ∀ k, (∀ y0 y1 y2, LeO (sha_primes.l0 k y0 y1 y2) (sha_primes.l0 (k + 1) y0 y1 y2))
  | 0 => fun _ _ _ r h => by simp [sha_primes.l0] at h
  | k + 1 => by
    have ih0 := sha_primes.mono_l k
    · intro y0 y1 y2
      unfold sha_primes.l0
      repeat' first
      | (with_reducible exact ih0 _ _ _)
      | (with_reducible exact sha_has.mono _ _ _)
      | (with_reducible exact LeO.refl _)
      | (with_reducible exact LeO.none _)
      | (with_reducible refine LeO.ite ?_ ?_)
      | (with_reducible refine LeO.bind ?_ (fun _ => ?_))
      | exact ih0 _ _ _
      | exact LeO.none _
      | refine LeO.ite ?_ ?_
      | refine LeO.bind ?_ (fun _ => ?_)
theorem sha_primes.mono : ∀ a0 k, LeO (sha_primes.f k a0) (sha_primes.f (k + 1) a0) := by
 intro a0 k; have ih0 := sha_primes.mono_l k; unfold sha_primes.f
 repeat' first
     | (with_reducible exact ih0 _ _ _)
     | (with_reducible exact sha_has.mono _ _ _)
     | (with_reducible exact LeO.refl _)
     | (with_reducible exact LeO.none _)
     | (with_reducible refine LeO.ite ?_ ?_)
     | (with_reducible refine LeO.bind ?_ (fun _ => ?_))
     | exact ih0 _ _ _
     | exact LeO.none _
     | refine LeO.ite ?_ ?_
     | refine LeO.bind ?_ (fun _ => ?_)
theorem sha_primes1.calls (x p : Int) (g : Nat) (w : World) (hp : p ≠ 0) (hx : w.cell? ⟨g, 0, none⟩ = some (.int .u64 x)) :
    Calls Tryd.prog 66 #[.int .u64 p, .pointer (some ⟨g, 0, none⟩)] w fun e w' => e = .returned (.bool (Int.tmod x p == 0)) ∧ w' = w := by
 have hp0 : (p == 0) = false := beq_eq_false_iff_ne.mpr hp; (go_enter Tryd.func66, Tryd.ntmps66); go_wp2; go_ret; exact ⟨rfl, rfl⟩
theorem sha_idx.calls (k : Nat) (A0 : Option Addr) (c0 : Nat) (l0 : List Int) (x : Int) (b : Bool) (g : Nat) (w : World) (hr0 : Kd.C (Kd.int .u64) w A0 l0.length l0) (hc0 : l0.length ≤ c0) (hx : w.cell? ⟨g, 0, none⟩ = some (.int .u64 x)) (h : sha_has.f k l0 x = some b) :
    Calls Tryd.prog 74 #[.slice A0 l0.length c0, .func (.func 66) #[] #[.pointer (some ⟨g, 0, none⟩)]] w fun e w' => ∃ j : Int, e = .returned (.int .i64 j) ∧ decide (0 ≤ j) = b ∧ w' = w := by
 have HR0 := aM_ hr0; have HC0 := aM_ hc0; have HX := aM_ hx; clear hr0 hc0 hx; have H' := aM_ (show sha_has.l0 k x l0 (l0.length : Int) 0 = some b from h); clear h; (go_enter Tryd.func74, Tryd.ntmps74); go_wp2; (go_loopg [8] k (fun kq v8 w' => ∃ (x8 : Int), v8 = .int .i64 x8 ∧ Aside0 (sha_has.l0 kq x l0 (l0.length : Int) x8 = some b) ∧ Aside0 (kq ≤ k) ∧ w' = w))
 case atStart => exact ⟨0, rfl, H', ⟨Nat.le_refl _⟩, rfl⟩
 case round =>
  clear H'; obtain ⟨x8, rfl, HA, HK1, rfl⟩ := hrel
  cases gk with
  | zero => exact absurd HA.out (by simp [sha_has.l0])
  | succ k1 =>
   have H := HA.out; clear HA; simp only [sha_has.l0] at H; (by_cases c3 : x8 < (l0.length : Int))
   · rw [if_pos c3] at H
     have c3b0 : decide (x8 < (l0.length : Int)) = true := dT_ c3; (by_cases c4 : 0 ≤ x8)
     · rw [if_pos c4, if_pos c3] at H
       have p1 := c4; have q1 := c3; have hpos := aM_ c4; obtain ⟨ad1, e1, hx1⟩ := Kd.at_int HR0.out x8 p1 q1; (cases e1); replace p1 := eq_true p1; replace q1 := eq_true q1; clear c3 c4; (by_cases c5 : rd l0 x8 = 0); (· rw [if_pos c5] at H; (cases H))
       · rw [if_neg c5] at H
         have C5 := aM_ c5; clear c5; (by_cases c6 : Int.tmod x (rd l0 x8) = 0); (· rw [if_pos c6] at H; have c6b0 : (Int.tmod x (rd l0 x8) == 0) = true := beq_iff_eq.mpr c6; clear c6; obtain rfl := oJ_ H; clear H; (go_wp2_with (go_at_call 66; refine (sha_primes1.calls x (rd l0 x8) g _ C5.out HX.out).mono ?_; rintro e w' ⟨rfl, rfl⟩)); go_ret; exact ⟨_, rfl, dT_ hpos.out, rfl⟩)
         · rw [if_neg c6] at H
           have c6b0 : (Int.tmod x (rd l0 x8) == 0) = false := beq_eq_false_iff_ne.mpr c6; clear c6; have H' := aM_ H; clear H; (go_wp2_with (go_at_call 66; refine (sha_primes1.calls x (rd l0 x8) g _ C5.out HX.out).mono ?_; rintro e w' ⟨rfl, rfl⟩)); (go_roundg k1)
           case measure => have := HK1.out; omega
           case rel => exact ⟨(wrap64 (x8 + 1)), (by first | rfl | (simp; done) | (simp [*]; done)), H', ⟨by have := HK1.out; omega⟩, rfl⟩
     (· rw [if_neg c4] at H; (cases H))
   (· rw [if_neg c3] at H; have c3b0 : decide (x8 < (l0.length : Int)) = false := decide_eq_false c3; clear c3; obtain rfl := oJ_ H; go_wp2; go_ret; exact ⟨_, rfl, by decide, rfl⟩)
set_option maxHeartbeats 8000000 in
theorem sha_contains.calls (k : Nat) (A0 : Option Addr) (c0 : Nat) (l0 : List Int) (x : Int) (b : Bool) (g : Nat) (w : World) (hr0 : Kd.C (Kd.int .u64) w A0 l0.length l0) (hc0 : l0.length ≤ c0) (hx : w.cell? ⟨g, 0, none⟩ = some (.int .u64 x)) (h : sha_has.f k l0 x = some b) :
    Calls Tryd.prog 65 #[.slice A0 l0.length c0, .func (.func 66) #[] #[.pointer (some ⟨g, 0, none⟩)]] w fun e w' => e = .returned (.bool b) ∧ w' = w := by
 have HI := aM_ (sha_idx.calls k A0 c0 l0 x b g w hr0 hc0 hx h); clear hr0 hc0 hx h; (go_enter Tryd.func65, Tryd.ntmps65); (go_wp2_with (go_at_call 74; refine HI.out.mono ?_; rintro e w' ⟨j, rfl, hj, rfl⟩)); go_ret; exact ⟨by first | rfl | (rw [← hj]; rfl) | (simp [← hj]), rfl⟩
theorem sha_primes.calls (k : Nat) (a0 : Int) (r : List Int) (w : World) (h : sha_primes.f k a0 = some r) :
    Calls Tryd.prog 54 #[.int .i64 a0] w fun e w' => ∃ v0_ : Value, e = .returned (v0_) ∧ Kd.R (Kd.int .u64) 53 w' w.heap.size (fun _ => True) v0_ r ∧ Below w.heap.size w w' := by
 have hmf : ∀ (fn : Fn) (first cap : Array Value) (w : World), (Instr.makeFunc fn first cap).run Tryd.prog w = .ok (.func fn first cap) w := fun _ _ _ _ => rfl; have HB := aM_ (Below.refl w.heap.size w); have H' := aM_ (show sha_primes.l0 k a0 ([] : List Int) 2 = some r from h); clear h; have hB1 : Below w.heap.size w (w.alloc (.cells #[.int .u64 2] 53)) := (Below.refl _ _).alloc (Nat.le_refl _) _; have hC1 : (w.alloc (.cells #[.int .u64 2] 53)).heap[w.heap.size]? = some (.cells #[.int .u64 2] 53 (0, 0)) := blk_new w _; have HB1 := aM_ hB1; have HC1 := aM_ hC1; clear hB1 hC1; (go_enter Tryd.func54, Tryd.ntmps54); go_wp2; (go_loopg [3, 4] k (fun kq v3 v4 w' => ∃ (x3_1 : List Int) (x4_1 : Int) (gx : Nat), v4 = .pointer (some ⟨gx, 0, none⟩) ∧ Aside0 (sha_primes.l0 kq a0 x3_1 x4_1 = some r) ∧ Aside0 (kq ≤ k) ∧ Aside0 (Kd.R (Kd.int .u64) 53 w' w.heap.size (fun b => b ≠ gx) v3 x3_1) ∧ Aside0 (w'.heap[gx]? = some (.cells #[.int .u64 x4_1] 53 (0, 0))) ∧ Aside0 (w.heap.size ≤ gx) ∧ Aside0 (Below w.heap.size w w')))
 case atStart => exact ⟨[], 2, w.heap.size, rfl, H', ⟨Nat.le_refl _⟩, ⟨Kd.R_nil _ _ _ _ _⟩, HC1, ⟨Nat.le_refl _⟩, HB1⟩
 case round =>
  clear H' HB1 HC1; obtain ⟨x3_1, x4_1, gx, rfl, HA, HK1, HO_3, HX, HG, HB⟩ := hrel
  cases gk with
  | zero => exact absurd HA.out (by simp [sha_primes.l0])
  | succ k1 =>
   have H := HA.out; clear HA; simp only [sha_primes.l0] at H; have hx0 : wr.cell? ⟨gx, 0, none⟩ = some (.int .u64 x4_1) := kC_ HX.out 0; obtain ⟨Ao5, co5, eo5⟩ := Kd.R_slice HO_3.out; subst eo5; (by_cases c2 : (x3_1.length : Int) < a0)
   · rw [if_pos c2] at H
     have c2b0 : decide ((x3_1.length : Int) < a0) = true := dT_ c2; clear c2; replace H := Option.bind_eq_some_iff.mp H; obtain ⟨t103, A30, H⟩ := H; have A3 := aM_ (sha_contains.calls k1 Ao5 co5 x3_1 x4_1 t103 gx wr (rR_ HO_3.out).2.2 (rR_ HO_3.out).2.1 hx0 A30); clear A30; (by_cases c4 : t103 = true)
     · subst c4
       (have H1 : (sha_primes.l0 k1 a0 x3_1 (IntKind.u64.wrap (x4_1 + 1))) = some r := by rw [if_pos rfl] at H; exact H); clear H; have H' := aM_ H1; clear H1; (go_wp2_with (go_at_call 65; refine A3.out.mono ?_; rintro e w' ⟨rfl, rfl⟩)); (go_roundg k1)
       case measure => have := HK1.out; omega
       case rel => exact ⟨x3_1, (IntKind.u64.wrap (x4_1 + 1)), _, (by first | rfl | (simp; done)), H', ⟨by have := HK1.out; omega⟩, ⟨Kd.R_mono (Kd.R_old HO_3.out (bA_ (Below.refl _ _) _)) (fun b hb => Nat.ne_of_lt hb.2)⟩, ⟨blk_new _ _⟩, ⟨HB.out.size⟩, ⟨HB.out.alloc HB.out.size _⟩⟩
     · replace c4 := Bool.eq_false_iff.mpr c4
       subst c4; (have H1 : (if x3_1.length < 17592186044416 then (sha_primes.l0 k1 a0 (x3_1 ++ [x4_1]) (IntKind.u64.wrap (x4_1 + 1))) else (none)) = some r := by rw [if_neg (show ¬ (false = true) by decide)] at H; exact H); clear H; (by_cases c6 : x3_1.length < 17592186044416)
       · rw [if_pos c6] at H1
         have LMc6 := aM_ c6; clear c6; obtain ⟨y104, hy104⟩ : ∃ y_ : List Int, y_ = (x3_1 ++ [x4_1]) := ⟨_, rfl⟩; rw [← hy104] at H1; have Ny104 := aM_ hy104; clear hy104; have H' := aM_ H1; clear H1; have hgl := blk_lt HX.out; have HGL := aM_ hgl; have hne : some gx ≠ (Value.slice Ao5 x3_1.length co5).ownBlock := fun e => (HO_3.out.1 gx e.symm) rfl; have HNE := aM_ hne; clear hgl hne; (go_wp2_with (first | (go_at_call 65; refine A3.out.mono ?_; rintro e w' ⟨rfl, rfl⟩) | ((with_reducible refine gate_builtin (b := .append) (xs := #[.tmp 15, .tmp 17]) rfl ?_); at_builtin; refine Kd.R_append (Kd.int .u64) (w0 := w) w.heap.size rfl (.tmp 15) (.tmp 17) 85 53 (.int .u64 0) 8 rfl Tryd.underlying85 info53 rfl (by decide) (by omega) (.slice Ao5 x3_1.length co5) x3_1 x4_1 [.int .u64 x4_1] (fun b => b ≠ gx) (fun _ => False) rfl rfl ?aP (fun _ hk => hk.elim) ?aF ?aO ?aB ?aS ?aL ?_; (case aP => exact rfl); (case aB => exact HB.out); (case aF => exact (fun b hb => Nat.ne_of_gt (Nat.lt_of_lt_of_le HGL.out hb))); (case aO => exact HO_3.out); (case aS => exact HB.out.size); (case aL => have := LMc6.out; omega); intro v105 w8 ho hb hg hat; rw [← Ny104.out] at ho; have hx8 := blk_grown HX.out hg HNE.out; have n2_ := aM_ hx8; have n0_ := aM_ hb; have n1_ := aM_ ho; replace hx8 : w8.cell? ⟨gx, 0, none⟩ = some (.int .u64 x4_1) := kC_ hx8 0; clear HB; have HB2 := n0_; have HO106 := n1_; have HX8 := n2_; clear n0_ n1_ n2_; clear ho hb hg hat))); (go_roundg k1)
         case measure => have := HK1.out; omega
         case rel => exact ⟨y104, (IntKind.u64.wrap (x4_1 + 1)), _, (by first | rfl | (simp; done)), H', ⟨by have := HK1.out; omega⟩, ⟨Kd.R_mono (Kd.R_old HO106.out (bA_ (Below.refl _ _) _)) (fun b hb => Nat.ne_of_lt hb.2)⟩, ⟨blk_new _ _⟩, ⟨HB2.out.size⟩, ⟨HB2.out.alloc HB2.out.size _⟩⟩
       (· rw [if_neg c6] at H1; (cases H1))
   (· rw [if_neg c2] at H; have c2b0 : decide ((x3_1.length : Int) < a0) = false := decide_eq_false c2; clear c2; obtain rfl := oJ_ H; go_wp2; go_ret; exact ⟨_, by first | rfl | (simp; done), Kd.R_mono HO_3.out (fun _ _ => trivial), HB.out⟩)
def bits_Mul64.f (a0 : Int) (a1 : Int) : Option (Int × Int) := some (IntKind.u64.wrap ((IntKind.u64.wrap ((IntKind.u64.wrap ((a0 / 4294967296) * (a1 / 4294967296))) + ((IntKind.u64.wrap ((IntKind.u64.wrap ((a0 / 4294967296) * (Go.bits .and .u64 a1 4294967295))) + ((IntKind.u64.wrap ((Go.bits .and .u64 a0 4294967295) * (Go.bits .and .u64 a1 4294967295))) / 4294967296))) / 4294967296))) + ((IntKind.u64.wrap ((Go.bits .and .u64 (IntKind.u64.wrap ((IntKind.u64.wrap ((a0 / 4294967296) * (Go.bits .and .u64 a1 4294967295))) + ((IntKind.u64.wrap ((Go.bits .and .u64 a0 4294967295) * (Go.bits .and .u64 a1 4294967295))) / 4294967296))) 4294967295) + (IntKind.u64.wrap ((Go.bits .and .u64 a0 4294967295) * (a1 / 4294967296))))) / 4294967296)), IntKind.u64.wrap (a0 * a1))
theorem bits_Mul64.calls (a0 : Int) (a1 : Int) (r1 : Int) (r2 : Int) (w : World) (h : bits_Mul64.f a0 a1 = some (r1, r2)) :
    Calls Tryd.prog 75 #[.int .u64 a0, .int .u64 a1] w fun e w' => e = .returned (.tuple #[.int .u64 r1, .int .u64 r2]) ∧ Drawn0 w w' := by
 have H : (some (IntKind.u64.wrap ((IntKind.u64.wrap ((IntKind.u64.wrap ((a0 / 4294967296) * (a1 / 4294967296))) + ((IntKind.u64.wrap ((IntKind.u64.wrap ((a0 / 4294967296) * (Go.bits .and .u64 a1 4294967295))) + ((IntKind.u64.wrap ((Go.bits .and .u64 a0 4294967295) * (Go.bits .and .u64 a1 4294967295))) / 4294967296))) / 4294967296))) + ((IntKind.u64.wrap ((Go.bits .and .u64 (IntKind.u64.wrap ((IntKind.u64.wrap ((a0 / 4294967296) * (Go.bits .and .u64 a1 4294967295))) + ((IntKind.u64.wrap ((Go.bits .and .u64 a0 4294967295) * (Go.bits .and .u64 a1 4294967295))) / 4294967296))) 4294967295) + (IntKind.u64.wrap ((Go.bits .and .u64 a0 4294967295) * (a1 / 4294967296))))) / 4294967296)), IntKind.u64.wrap (a0 * a1))) = some (r1, r2) := h; clear h; simp only [oI_, pI_] at H; obtain ⟨rfl, rfl⟩ := H; (go_enter Tryd.func75, Tryd.ntmps75); go_wp2; (go_ret2); exact ⟨by first | rfl | (simp; done) | (simp [*]; done), by repeat (first | exact Drawn0.refl _ | apply Drawn0.step)⟩
end Go.Proofs.YtbnkcbfhappgnaaDoor.Fn
