import Derived.Test.YtjjbofbkpmabbaaHx0
namespace Go.Proofs.Ytjjbofbkpmabbaa.Fn
set_option maxHeartbeats 8000000
set_option maxRecDepth 100000
open Go.RowKit Go.Proofs.YtjjbofbkpmabbaaW.PrintWords Go.Proofs.YtjjbofbkpmabbaaW.PrintLast Go.Proofs.YtjjbofbkpmabbaaW.PrintMore
attribute [local go_sem] max2_int min2_int max_two min_two max_three min_three max_four min_four
set_option linter.unusedVariables false
set_option linter.unusedSimpArgs false
def bits_RotateLeft32.f (a0 : Int) (a1 : Int) : Option (Int) := if 0 ≤ (Go.bits .and .u64 (IntKind.u64.wrap (a1)) 31) then (if 0 ≤ (IntKind.u64.wrap (32 - (Go.bits .and .u64 (IntKind.u64.wrap (a1)) 31))) then (some (Go.bits .or .u32 (shl .u32 a0 (Go.bits .and .u64 (IntKind.u64.wrap (a1)) 31)) (shr .u32 a0 (IntKind.u64.wrap (32 - (Go.bits .and .u64 (IntKind.u64.wrap (a1)) 31)))))) else (none)) else (none)
theorem bits_RotateLeft32.calls (a0 : Int) (a1 : Int) (r : Int) (w : World) (h : bits_RotateLeft32.f a0 a1 = some r) :
    Calls Try.prog 59 #[.int .u32 a0, .int .i64 a1] w fun e w' => e = .returned (.int .u32 r) ∧ Drawn0 w w' := by
 have H : (if 0 ≤ (Go.bits .and .u64 (IntKind.u64.wrap (a1)) 31) then (if 0 ≤ (IntKind.u64.wrap (32 - (Go.bits .and .u64 (IntKind.u64.wrap (a1)) 31))) then (some (Go.bits .or .u32 (shl .u32 a0 (Go.bits .and .u64 (IntKind.u64.wrap (a1)) 31)) (shr .u32 a0 (IntKind.u64.wrap (32 - (Go.bits .and .u64 (IntKind.u64.wrap (a1)) 31)))))) else (none)) else (none)) = some r := h; clear h; obtain ⟨ji3, hji3⟩ : ∃ j_ : Int, (Go.bits .and .u64 (IntKind.u64.wrap (a1)) 31) = j_ := ⟨_, rfl⟩; (replace H : (if 0 ≤ (ji3) then (if 0 ≤ (IntKind.u64.wrap (32 - (ji3))) then (some (Go.bits .or .u32 (shl .u32 a0 (ji3)) (shr .u32 a0 (IntKind.u64.wrap (32 - (ji3)))))) else (none)) else (none)) = some r := by first | (rw [hji3] at H; exact H) | (simp only [hji3] at H ⊢; exact H)); (by_cases c4 : 0 ≤ (ji3)); (· rw [if_pos c4] at H; have c4b0 := eq_true c4; have c4b1 : decide (0 ≤ (ji3)) = true := dT_ c4; clear c4; obtain ⟨ji5, hji5⟩ : ∃ j_ : Int, (shl .u32 a0 (ji3)) = j_ := ⟨_, rfl⟩; (replace H : (if 0 ≤ (IntKind.u64.wrap (32 - (ji3))) then (some (Go.bits .or .u32 (ji5) (shr .u32 a0 (IntKind.u64.wrap (32 - (ji3)))))) else (none)) = some r := by first | (rw [hji5] at H; exact H) | (simp only [hji5] at H ⊢; exact H)); have hji5_ : (IntKind.u32.wrap (a0 * 2 ^ min (ji3).toNat 32)) = ji5 := hji5; have hji5z : (ji3) ≤ 32 → (IntKind.u32.wrap (a0 * 2 ^ (ji3).toNat)) = ji5 := shl_small hji5; obtain ⟨ji6, hji6⟩ : ∃ j_ : Int, (IntKind.u64.wrap (32 - (ji3))) = j_ := ⟨_, rfl⟩; (replace H : (if 0 ≤ (ji6) then (some (Go.bits .or .u32 (ji5) (shr .u32 a0 (ji6)))) else (none)) = some r := by first | (rw [hji6] at H; exact H) | (simp only [hji6] at H ⊢; exact H)); (by_cases c7 : 0 ≤ (ji6)); (· rw [if_pos c7] at H; have c7b0 := eq_true c7; have c7b1 : decide (0 ≤ (ji6)) = true := dT_ c7; clear c7; obtain ⟨ji8, hji8⟩ : ∃ j_ : Int, (shr .u32 a0 (ji6)) = j_ := ⟨_, rfl⟩; (replace H : (some (Go.bits .or .u32 (ji5) (ji8))) = some r := by first | (rw [hji8] at H; exact H) | (simp only [hji8] at H ⊢; exact H)); have hji8_ : (a0 / 2 ^ min (ji6).toNat 32) = ji8 := hji8; have hji8z : (ji6) ≤ 32 → (a0 / 2 ^ (ji6).toNat) = ji8 := shr_small hji8; obtain rfl := oJ_ H; simp only [oI_, pI_] at H; obtain ⟨rfl⟩ := H; (go_enter Try.func59, Try.ntmps59); go_wp2; go_ret; (exact ⟨by first | rfl | (simp; done) | (simp only [← hji3, ← hji5, ← hji6, ← hji8] <;> (first | rfl | simp)) | (simp [*]; done), by repeat (first | exact Drawn0.refl _ | apply Drawn0.step)⟩)); (· rw [if_neg c7] at H; exact absurd H (by simp))); (· rw [if_neg c4] at H; exact absurd H (by simp))
def bits_Len64.f (a0 : Int) : Option (Int) := if 0 ≤ a0 then (if a0 ≤ 18446744073709551615 then some (Lib.bitLen a0.toNat : Int) else none) else none
set_option maxRecDepth 100000 in
theorem bits_Len64.len8tab_size : (Lib.len8tab.size : Int) = 256 := by
 (have : Lib.len8tab.size = 256 := by decide); omega
theorem bits_Len64.wrap_add (k a b : Nat) (hk : k ≤ 56) (ha : a ≤ 8) (hb : b = k + a) : wrap64 ((k : Int) + wrap64 (a : Int)) = (b : Int) := by
 unfold wrap64; omega
theorem bits_Len64.wrap_wrap (a : Nat) (ha : a ≤ 8) : wrap64 (wrap64 (a : Int)) = (a : Int) := by
 unfold wrap64; omega
theorem bits_Len64.wrap_one (a : Nat) (ha : a ≤ 8) : wrap64 (a : Int) = (a : Int) := by
 unfold wrap64; omega
theorem bits_Len64.len8_get (y : Int) (h : y.toNat < Lib.len8tab.size) : ((Lib.len8tab[y.toNat]'h).toNat : Int) = Lib.len8 y := by
 unfold Lib.len8; rw [getElem?_pos Lib.len8tab y.toNat h]; rfl
set_option maxHeartbeats 32000000 in
set_option maxRecDepth 1000000 in
theorem bits_Len64.calls (x : Int) (r : Int) (w : World) (h : bits_Len64.f x = some r) :
    Calls Try.prog 57 #[.int .u64 x] w fun e w' => e = .returned (.int .i64 r) ∧ Drawn0 w w' := by
 unfold bits_Len64.f at h; (by_cases h0 : 0 ≤ x)
 case neg => rw [if_neg h0] at h; cases h
 rw [if_pos h0] at h; (by_cases h1 : x ≤ 18446744073709551615)
 case neg => rw [if_neg h1] at h; cases h
 rw [if_pos h1] at h; obtain rfl := oJ_ h; clear h; (go_enter Try.func57, Try.ntmps57); go_wp2
 all_goals first
   | (go_ret; refine ⟨congrArg Ending.returned (congrArg (Value.int IntKind.i64) ?_), Drawn0.refl _⟩; go_light)
   | (exfalso
      go_light
      have hs := bits_Len64.len8tab_size
      omega)
 all_goals first
   | (rw [bits_Len64.len8_get (x / 4294967296 / 65536 / 256) _, Lib.len8_of (x / 4294967296 / 65536 / 256) (by omega) (by omega)]
      have e : (x / 4294967296 / 65536 / 256).toNat = x.toNat / 72057594037927936 := by omega
      have l := Lib.bitLen_le8' (x / 4294967296 / 65536 / 256) (by omega) (by omega)
      have s := Lib.bitLen_shift56 x.toNat (by omega) (by omega)
      rw [e] at l ⊢
      exact bits_Len64.wrap_add 56 _ _ (by decide) l s)
   | (rw [bits_Len64.len8_get (x / 4294967296 / 65536) _, Lib.len8_of (x / 4294967296 / 65536) (by omega) (by omega)]
      have e : (x / 4294967296 / 65536).toNat = x.toNat / 281474976710656 := by omega
      have l := Lib.bitLen_le8' (x / 4294967296 / 65536) (by omega) (by omega)
      have s := Lib.bitLen_shift48 x.toNat (by omega) (by omega)
      rw [e] at l ⊢
      exact bits_Len64.wrap_add 48 _ _ (by decide) l s)
   | (rw [bits_Len64.len8_get (x / 4294967296 / 256) _, Lib.len8_of (x / 4294967296 / 256) (by omega) (by omega)]
      have e : (x / 4294967296 / 256).toNat = x.toNat / 1099511627776 := by omega
      have l := Lib.bitLen_le8' (x / 4294967296 / 256) (by omega) (by omega)
      have s := Lib.bitLen_shift40 x.toNat (by omega) (by omega)
      rw [e] at l ⊢
      exact bits_Len64.wrap_add 40 _ _ (by decide) l s)
   | (rw [bits_Len64.len8_get (x / 4294967296) _, Lib.len8_of (x / 4294967296) (by omega) (by omega)]
      have e : (x / 4294967296).toNat = x.toNat / 4294967296 := by omega
      have l := Lib.bitLen_le8' (x / 4294967296) (by omega) (by omega)
      have s := Lib.bitLen_shift32 x.toNat (by omega) (by omega)
      rw [e] at l ⊢
      exact bits_Len64.wrap_add 32 _ _ (by decide) l s)
   | (rw [bits_Len64.len8_get (x / 65536 / 256) _, Lib.len8_of (x / 65536 / 256) (by omega) (by omega)]
      have e : (x / 65536 / 256).toNat = x.toNat / 16777216 := by omega
      have l := Lib.bitLen_le8' (x / 65536 / 256) (by omega) (by omega)
      have s := Lib.bitLen_shift24 x.toNat (by omega) (by omega)
      rw [e] at l ⊢
      exact bits_Len64.wrap_add 24 _ _ (by decide) l s)
   | (rw [bits_Len64.len8_get (x / 65536) _, Lib.len8_of (x / 65536) (by omega) (by omega)]
      have e : (x / 65536).toNat = x.toNat / 65536 := by omega
      have l := Lib.bitLen_le8' (x / 65536) (by omega) (by omega)
      have s := Lib.bitLen_shift16 x.toNat (by omega) (by omega)
      rw [e] at l ⊢
      exact bits_Len64.wrap_add 16 _ _ (by decide) l s)
   | (rw [bits_Len64.len8_get (x / 256) _, Lib.len8_of (x / 256) (by omega) (by omega)]
      have e : (x / 256).toNat = x.toNat / 256 := by omega
      have l := Lib.bitLen_le8' (x / 256) (by omega) (by omega)
      have s := Lib.bitLen_shift8 x.toNat (by omega) (by omega)
      rw [e] at l ⊢
      exact bits_Len64.wrap_add 8 _ _ (by decide) l s)
   | (rw [bits_Len64.len8_get (x) _, Lib.len8_of (x) (by omega) (by omega)]
      have e : (x).toNat = x.toNat := by omega
      have l := Lib.bitLen_le8' (x) (by omega) (by omega)
      rw [e] at l ⊢
      first | exact bits_Len64.wrap_wrap _ l | exact bits_Len64.wrap_add 0 _ _ (by decide) l (by omega) | exact bits_Len64.wrap_one _ l)
def rabin_Mod.l0 : Nat → Int → Int → Option (Int)
  | 0, _, _ => none
  | k + 1, x0, x3 => if x3 > 31 then (if 0 ≤ (wrap64 ((wrap64 (x3 - 31)) - 1)) then ((bits_Len64.f (Go.bits .xor .u64 x0 (shl .u64 2147483657 (wrap64 ((wrap64 (x3 - 31)) - 1))))).bind fun t102 => (rabin_Mod.l0 k (Go.bits .xor .u64 x0 (shl .u64 2147483657 (wrap64 ((wrap64 (x3 - 31)) - 1)))) t102)) else (none)) else (some x0)
def rabin_Mod.f (k : Nat) (a0 : Int) : Option (Int) := (bits_Len64.f a0).bind fun t101 => (rabin_Mod.l0 k a0 t101)
theorem rabin_Mod.mono_l : ∀ k, (∀ y0 y1, LeO (rabin_Mod.l0 k y0 y1) (rabin_Mod.l0 (k + 1) y0 y1))
  | 0 => fun _ _ r h => by simp [rabin_Mod.l0] at h
  | k + 1 => by
    have ih0 := rabin_Mod.mono_l k
    · intro y0 y1
      unfold rabin_Mod.l0
      repeat' first
      | (with_reducible exact ih0 _ _)
      | (with_reducible exact LeO.refl _)
      | (with_reducible exact LeO.none _)
      | (with_reducible refine LeO.ite ?_ ?_)
      | (with_reducible refine LeO.bind ?_ (fun _ => ?_))
      | exact ih0 _ _
      | exact LeO.none _
      | refine LeO.ite ?_ ?_
      | refine LeO.bind ?_ (fun _ => ?_)
theorem rabin_Mod.mono : ∀ a0 k, LeO (rabin_Mod.f k a0) (rabin_Mod.f (k + 1) a0) := by
 intro a0 k; have ih0 := rabin_Mod.mono_l k; unfold rabin_Mod.f
 repeat' first
     | (with_reducible exact ih0 _ _)
     | (with_reducible exact LeO.refl _)
     | (with_reducible exact LeO.none _)
     | (with_reducible refine LeO.ite ?_ ?_)
     | (with_reducible refine LeO.bind ?_ (fun _ => ?_))
     | exact ih0 _ _
     | exact LeO.none _
     | refine LeO.ite ?_ ?_
     | refine LeO.bind ?_ (fun _ => ?_)
theorem rabin_Mod.calls (k : Nat) (a0 : Int) (r : Int) (w : World) (h : rabin_Mod.f k a0 = some r) :
    Calls Try.prog 47 #[.int .u64 a0] w fun e w' => e = .returned (.int .u64 r) ∧ Drawn0 w w' := by
 have H : ((bits_Len64.f a0).bind fun t101 => (rabin_Mod.l0 k a0 t101)) = some r := h; clear h; replace H := Option.bind_eq_some_iff.mp H; obtain ⟨t101, A20, H⟩ := H; replace H : (rabin_Mod.l0 k a0 t101) = some r := H; have A2 := aM_ A20; clear A20; have H' := aM_ H; clear H; (go_enter Try.func47, Try.ntmps47); (go_wp2_with (first | ((with_reducible refine gate_callee (f := 57) rfl ?_); refine goesL_ (some 5) rfl rfl Try.func57 (by kernel_rfl) rfl #[.int .u64 a0] rfl (by (try simp only [mA_, mC_, mN_]); first | done | rfl | (simp only [lD_, lT_]; rfl)) ?_; (with_reducible refine (bits_Len64.calls a0 t101 _ A2.out).mono ?_); rintro e w' ⟨rfl, ⟨nd, rfl⟩⟩; refine ⟨_, rfl, ?_⟩))); (go_loopg [0, 3] k (fun kq v0 v3 w' => ∃ (x0_1 : Int) (x3_1 : Int), v0 = .int .u64 x0_1 ∧ v3 = .int .i64 x3_1 ∧ Aside0 (rabin_Mod.l0 kq x0_1 x3_1 = some r) ∧ Aside0 (kq ≤ k) ∧ Drawn0 w w'))
 case atStart => exact ⟨(a0), (t101), (by first | rfl | (simp; done) | (simp [*]; done)), (by first | rfl | (simp; done) | (simp [*]; done)), H', ⟨Nat.le_refl _⟩, by repeat (first | exact Drawn0.refl _ | apply Drawn0.step)⟩
 case round =>
  clear H'; (try clear p2); obtain ⟨x0_1, x3_1, rfl, rfl, HA, HK1, ⟨m1, rfl⟩⟩ := hrel
  cases gk with
  | zero => exact absurd HA.out (by simp [rabin_Mod.l0])
  | succ k1 =>
   have H := HA.out; clear HA; simp only [rabin_Mod.l0] at H; (by_cases c3 : x3_1 > 31)
   · rw [if_pos c3] at H
     have c3b0 : decide (31 < x3_1) = true := dT_ c3; clear c3; obtain ⟨ji4, hji4⟩ : ∃ j_ : Int, (wrap64 ((wrap64 (x3_1 - 31)) - 1)) = j_ := ⟨_, rfl⟩; (replace H : (if 0 ≤ (ji4) then ((bits_Len64.f (Go.bits .xor .u64 x0_1 (shl .u64 2147483657 (ji4)))).bind fun t102 => (rabin_Mod.l0 k1 (Go.bits .xor .u64 x0_1 (shl .u64 2147483657 (ji4))) t102)) else (none)) = some r := by first | (rw [hji4] at H; exact H) | (simp only [hji4] at H ⊢; exact H)); have hji4w : (IntKind.i64.wrap ((wrap64 (x3_1 - 31)) - 1)) = ji4 := (i64_w _).trans hji4; (by_cases c5 : 0 ≤ (ji4))
     · rw [if_pos c5] at H
       have c5b0 := eq_true c5; have c5b1 : decide (0 ≤ (ji4)) = true := dT_ c5; clear c5; obtain ⟨ji6, hji6⟩ : ∃ j_ : Int, (shl .u64 2147483657 (ji4)) = j_ := ⟨_, rfl⟩; (replace H : ((bits_Len64.f (Go.bits .xor .u64 x0_1 (ji6))).bind fun t102 => (rabin_Mod.l0 k1 (Go.bits .xor .u64 x0_1 (ji6)) t102)) = some r := by first | (rw [hji6] at H; exact H) | (simp only [hji6] at H ⊢; exact H)); have hji6_ : (IntKind.u64.wrap (2147483657 * 2 ^ min (ji4).toNat 64)) = ji6 := hji6; have hji6z : (ji4) ≤ 64 → (IntKind.u64.wrap (2147483657 * 2 ^ (ji4).toNat)) = ji6 := shl_small hji6; replace H := Option.bind_eq_some_iff.mp H; obtain ⟨t102, A70, H⟩ := H; replace H : (rabin_Mod.l0 k1 (Go.bits .xor .u64 x0_1 (ji6)) t102) = some r := H; have A7 := aM_ A70; clear A70; have H' := aM_ H; clear H; (go_wp2_with (first | ((with_reducible refine gate_callee (f := 57) rfl ?_); refine goesL_ (some 9) rfl rfl Try.func57 (by kernel_rfl) rfl #[.int .u64 (Go.bits .xor .u64 x0_1 (ji6))] rfl (by (try simp only [mA_, mC_, mN_]); first | done | (simp only [hji6]; rfl) | rfl | (simp only [lD_, lT_]; rfl)) ?_; (with_reducible refine (bits_Len64.calls (Go.bits .xor .u64 x0_1 (ji6)) t102 _ A7.out).mono ?_); rintro e w' ⟨rfl, ⟨nd, rfl⟩⟩; refine ⟨_, rfl, ?_⟩))); (go_roundg k1)
       case measure => have := HK1.out; omega
       case rel => exact ⟨(Go.bits .xor .u64 x0_1 (ji6)), (t102), (by first | rfl | (simp; done) | (simp only [← hji6] <;> (first | rfl | simp)) | (simp [*]; done)), (by first | rfl | (simp; done) | (simp [*]; done)), H', ⟨by have := HK1.out; omega⟩, by repeat (first | exact Drawn0.refl _ | apply Drawn0.step)⟩
     (· rw [if_neg c5] at H; exact absurd H (by simp))
   (· rw [if_neg c3] at H; have c3b0 : decide (31 < x3_1) = false := decide_eq_false c3; clear c3; obtain rfl := oJ_ H; simp only [oI_, pI_] at H; obtain ⟨rfl⟩ := H; go_wp2; go_ret; exact ⟨by first | rfl | (simp; done) | (simp [*]; done), by repeat (first | exact Drawn0.refl _ | apply Drawn0.step)⟩)
def rabin_table.l0 : Nat → List Int → Int → Option (List Int)
  | 0, _, _ => none
  | k + 1, xs, x => if x < 256 then (if 0 ≤ x then ((rabin_Mod.f k (IntKind.u64.wrap ((IntKind.u64.wrap (x)) * 2147483648))).bind fun t => (rabin_table.l0 k (xs.set x.toNat t) (wrap64 (x + 1)))) else none) else (some xs)
def rabin_table.f (k : Nat) : Option (List Int) := rabin_table.l0 k (List.replicate 256 0) 0
theorem rabin_table.mono_l : ∀ k, (∀ y0 y1, LeO (rabin_table.l0 k y0 y1) (rabin_table.l0 (k + 1) y0 y1))
  | 0 => fun _ _ r h => by simp [rabin_table.l0] at h
  | k + 1 => by
    have ih0 := rabin_table.mono_l k
    · intro y0 y1
      unfold rabin_table.l0
      repeat' first
      | (with_reducible exact ih0 _ _)
      | (with_reducible exact rabin_Mod.mono _ _)
      | (with_reducible exact LeO.refl _)
      | (with_reducible exact LeO.none _)
      | (with_reducible refine LeO.ite ?_ ?_)
      | (with_reducible refine LeO.bind ?_ (fun _ => ?_))
theorem rabin_table.mono : ∀ k, LeO (rabin_table.f k) (rabin_table.f (k + 1)) := fun k => rabin_table.mono_l k _ _
def rabin_push.f (l0 : List Int) (a1 : Int) (a2 : Int) : Option (Int) := if 0 ≤ ((Go.bits .or .u64 (IntKind.u64.wrap (a1 * 256)) (IntKind.u64.wrap (a2))) / 2147483648) then (if ((Go.bits .or .u64 (IntKind.u64.wrap (a1 * 256)) (IntKind.u64.wrap (a2))) / 2147483648) < (l0.length : Int) then (some (Go.bits .xor .u64 (Go.bits .and .u64 (Go.bits .or .u64 (IntKind.u64.wrap (a1 * 256)) (IntKind.u64.wrap (a2))) 2147483647) (rd l0 ((Go.bits .or .u64 (IntKind.u64.wrap (a1 * 256)) (IntKind.u64.wrap (a2))) / 2147483648)))) else (none)) else (none)
def rabin_Window.l0 : Nat → List Int → Int → List Int → Int → Int → Option (Int)
  | 0, _, _, _, _, _ => none
  | k + 1, x3, x4, x8, x9, x10 => if x10 < x9 then (if 0 ≤ x10 then (if x10 < (x8.length : Int) then ((rabin_push.f x3 x4 (rd x8 x10)).bind fun t113 => (rabin_Window.l0 k x3 t113 x8 x9 (wrap64 (x10 + 1)))) else (none)) else (none)) else (some x4)
def rabin_Window.f (k : Nat) (l0 : List Int) : Option (Int) := (rabin_table.f k).bind fun t109 => (rabin_Window.l0 k t109 0 l0 (l0.length : Int) 0)
theorem rabin_Window.mono_l : ∀ k, (∀ y0 y1 y2 y3 y4, LeO (rabin_Window.l0 k y0 y1 y2 y3 y4) (rabin_Window.l0 (k + 1) y0 y1 y2 y3 y4))
  | 0 => fun _ _ _ _ _ r h => by simp [rabin_Window.l0] at h
  | k + 1 => by
    have ih0 := rabin_Window.mono_l k
    · intro y0 y1 y2 y3 y4
      unfold rabin_Window.l0
      repeat' first
      | (with_reducible exact ih0 _ _ _ _ _)
      | (with_reducible exact LeO.refl _)
      | (with_reducible exact LeO.none _)
      | (with_reducible refine LeO.ite ?_ ?_)
      | (with_reducible refine LeO.bind ?_ (fun _ => ?_))
theorem rabin_Window.mono : ∀ a0 k, LeO (rabin_Window.f k a0) (rabin_Window.f (k + 1) a0) := by
 intro a0 k; have ih0 := rabin_Window.mono_l k; unfold rabin_Window.f
 repeat' first
     | (with_reducible exact ih0 _ _ _ _ _)
     | (with_reducible exact rabin_table.mono _)
     | (with_reducible exact LeO.refl _)
     | (with_reducible exact LeO.none _)
     | (with_reducible refine LeO.ite ?_ ?_)
     | (with_reducible refine LeO.bind ?_ (fun _ => ?_))
def arr64 (xs : List Int) : Array Value := (xs.map (Value.int .u64)).toArray
theorem arr64_size (xs : List Int) : (arr64 xs).size = xs.length := by simp [arr64]
theorem arr64_set (xs : List Int) (i : Nat) (v : Int) : (arr64 xs).setIfInBounds i (.int .u64 v) = arr64 (xs.set i v) := by simp [arr64, List.map_set]
theorem arr64_one (xs : List Int) : (arr64 xs).all (·.oneCell') = true := by
 rw [Array.all_eq_true_iff_forall_mem]; intro v hv; simp [arr64] at hv; obtain ⟨x, _, rfl⟩ := hv; rfl
theorem arr64_at (xs : List Int) (i : Nat) (h : i < xs.length) : (arr64 xs)[i]? = some (.int .u64 (rd xs (i : Int))) := by
 simp [arr64, rd, h]
theorem below_setRow64 {B g : Nat} {w0 w : World} (hb : Below B w0 w) (hBg : B ≤ g) (cs : Array Value) : Below B w0 (w.setRow g cs) :=
  hb.trans ⟨rfl, rfl, rfl, by simp, fun k hk => setRow_other w g k cs (by omega)⟩
theorem rabin_table.calls (k : Nat) (r : List Int) (w : World) (h : rabin_table.f k = some r) :
    Calls Try.prog 45 #[] w fun e w' => r.length = 256 ∧ e = .returned (.agg (arr64 r)) ∧ Below w.heap.size w w' := by
 have HB := aM_ (Below.refl w.heap.size w); have H' := aM_ (show rabin_table.l0 k (List.replicate 256 0) 0 = some r from h); clear h
 have h2 : ∀ Z : Array Value, ((w.alloc (.cells Z 95)).alloc (.cells Z 95)).heap[w.heap.size]? = some (.cells Z 95 (0, 0)) ∧ ((w.alloc (.cells Z 95)).alloc (.cells Z 95)).heap[w.heap.size + 1]? = some (.cells Z 95 (0, 0)) ∧ Below w.heap.size w ((w.alloc (.cells Z 95)).alloc (.cells Z 95)) := by
  intro Z; (have e : (w.alloc (.cells Z 95)).heap.size = w.heap.size + 1 := by simp); have b1 := blk_new (w.alloc (.cells Z 95)) (.cells Z 95); rw [e] at b1; exact ⟨kA_ (blk_new w _) _, b1, ((Below.refl _ _).alloc (Nat.le_refl _) _).alloc (by simp) _⟩
 have H2 := aM_ h2; clear h2; (go_enter Try.func45, Try.ntmps45); go_wp2; (go_loopg [3] k (fun kq v3 w' => ∃ (xs : List Int) (cs0 : Array Value) (x3 : Int), v3 = .int .i64 x3 ∧ Aside0 (rabin_table.l0 kq xs x3 = some r) ∧ Aside0 (kq ≤ k) ∧ Aside0 (xs.length = 256) ∧ Aside0 (w'.heap[w.heap.size + 1]? = some (.cells (arr64 xs) 95 (0, 0))) ∧ Aside0 (w'.heap[w.heap.size]? = some (.cells cs0 95 (0, 0)) ∧ cs0.size = 256) ∧ Aside0 (Below w.heap.size w w')))
 case atStart =>
  obtain ⟨b0, b1, b2⟩ := H2.out (arr64 (List.replicate 256 0)); exact ⟨List.replicate 256 0, _, 0, rfl, H', ⟨Nat.le_refl _⟩, ⟨by simp⟩, ⟨b1⟩, ⟨b0, by simp [arr64]⟩, ⟨b2⟩⟩
 case round =>
  clear H' H2; obtain ⟨xs, cs0, x3, rfl, HA, HK1, HL, HX1, HX0, HB⟩ := hrel
  cases gk with
  | zero => exact absurd HA.out (by simp [rabin_table.l0])
  | succ k1 =>
   have H := HA.out; clear HA; simp only [rabin_table.l0] at H; (by_cases c7 : x3 < 256)
   · rw [if_pos c7] at H
     (by_cases c8 : 0 ≤ x3)
     · rw [if_pos c8] at H
       replace H := Option.bind_eq_some_iff.mp H; obtain ⟨t123, A100, H⟩ := H; have A10 := aM_ A100; clear A100; have H' := aM_ H; clear H; (have hc1 : wr.cell? ⟨w.heap.size + 1, x3.toNat, none⟩ = some (.int .u64 (rd xs (x3.toNat : Int))) := by rw [kC_ HX1.out]; exact arr64_at xs x3.toNat (by have := HL.out; omega)); have hf1 : wr.frozen? ⟨w.heap.size + 1, x3.toNat, none⟩ = false := kF_ HX1.out _; have c7b0 : decide (x3 < 256) = true := dT_ c7; have p122 := eq_true c8; have q122 := eq_true c7; clear c7 c8; (go_wp2_with (first | ((with_reducible refine gate_callee (f := 47) rfl ?_); refine goesL_ (some 10) rfl rfl Try.func47 (by kernel_rfl) rfl #[.int .u64 (IntKind.u64.wrap ((IntKind.u64.wrap (x3)) * 2147483648))] rfl (by (try simp only [mA_, mC_, mN_]); first | done | rfl) ?_; (with_reducible refine (rabin_Mod.calls k1 (IntKind.u64.wrap ((IntKind.u64.wrap (x3)) * 2147483648)) t123 _ A10.out).mono ?_); rintro e w' ⟨rfl, ⟨nd, rfl⟩⟩; refine ⟨_, rfl, ?_⟩) | ((with_reducible refine gate_store (t := 60) (p := 11) rfl ?_); refine store_event (t := 60) (p := 11) (v := ?vo_w17) (w1 := ((wr.drewN _).setCell ⟨w.heap.size + 1, x3.toNat, none⟩ (.int .u64 t123))) ?hg ?ho ?hn ?hr ?_; (case ho => rfl); (case hg => rfl); (case hn => rfl); (case hr => first | (go_simp; done) | (go_simp; rfl)); intro w17 hw))); (go_roundg k1)
       case measure => have := HK1.out; omega
       case rel => exact ⟨xs.set x3.toNat t123, cs0, wrap64 (x3 + 1), (by first | rfl | (simp; done)), H', ⟨by have := HK1.out; omega⟩, ⟨by rw [List.length_set]; exact HL.out⟩, ⟨blk_put (kN_ HX1.out _) _ _ (arr64_set xs _ _)⟩, ⟨blk_far (kN_ HX0.out.1 _) (by show w.heap.size ≠ w.heap.size + 1; omega) _, HX0.out.2⟩, ⟨(bN_ HB.out _).setCell (by show w.heap.size ≤ w.heap.size + 1; omega) _⟩⟩
     (· rw [if_neg c8] at H; exact absurd H (by simp))
   (· rw [if_neg c7] at H; have c7b0 : decide (x3 < 256) = false := decide_eq_false c7; clear c7; obtain rfl := oJ_ H; have hl1 := aM_ (run_loadVar_row (P := Try.prog) wr (w.heap.size + 1) 95 95 (arr64 xs) (0, 0) _ HX1.out Try.underlying95 rfl (by rw [arr64_size, HL.out]; kernel_rfl)); have hs1 := aM_ (run_storeVar_row (P := Try.prog) wr w.heap.size 95 95 cs0 (arr64 xs) HX0.out.1 (by rw [arr64_size, HL.out]; kernel_rfl) (by rw [arr64_size, HL.out]; exact HX0.out.2) (arr64_one xs)); (go_upto_region 7 with (fail)); refine wp_region_lit ?_; refine Kd.event_run (v := .agg (arr64 xs)) (w1 := wr) rfl (loadRow_run hl1.out rfl) ?_; refine store_event (w1 := wr.setRow w.heap.size (arr64 xs)) rfl rfl rfl (storeRow_run hs1.out rfl rfl) ?_; intro w18 hw; subst hw; have hblk := setRow_heap wr w.heap.size cs0 (arr64 xs) 95 (0, 0) HX0.out.1; have HBL := aM_ hblk; have HB2 := aM_ (below_setRow64 HB.out (Nat.le_refl _) (arr64 xs)); clear hblk; go_wp2; refine bodyPost_ret (results_cell_row rfl _ _ w.heap.size 95 (arr64 xs) (0, 0) _ rfl HBL.out Try.underlying95 rfl (by rw [arr64_size, HL.out]; kernel_rfl)) rfl ?_; exact ⟨HL.out, rfl, HB2.out⟩)
theorem rabin_push.calls (g : Nat) (l0 : List Int) (a1 : Int) (a2 : Int) (r : Int) (w : World) (hg : w.heap[g]? = some (.cells (arr64 l0) 95 (0, 0))) (hl : l0.length = 256) (h : rabin_push.f l0 a1 a2 = some r) :
    Calls Try.prog 46 #[.pointer (some ⟨g, 0, none⟩), .int .u64 a1, .int .u8 a2] w fun e w' => e = .returned (.int .u64 r) ∧ Drawn0 w w' := by
 unfold rabin_push.f at h; obtain ⟨ji4, hji4⟩ : ∃ j_ : Int, ((Go.bits .or .u64 (IntKind.u64.wrap (a1 * 256)) (IntKind.u64.wrap (a2))) / 2147483648) = j_ := ⟨_, rfl⟩; rw [hji4] at h; (by_cases c5 : 0 ≤ ji4)
 · rw [if_pos c5] at h
   (by_cases c6 : ji4 < (l0.length : Int))
   · rw [if_pos c6] at h
     obtain rfl := oJ_ h
     have hc1 : w.cell? ⟨g, ji4.toNat, none⟩ = some (.int .u64 (rd l0 ji4)) := by
      rw [kC_ hg, show rd l0 ji4 = rd l0 (ji4.toNat : Int) by rw [Int.toNat_of_nonneg c5]]; exact arr64_at l0 ji4.toNat (by omega)
     have p108 := eq_true c5; have q108 := eq_true (show ji4 < 256 by omega); clear c5 c6 h hg hl; (go_enter Try.func46, Try.ntmps46); go_wp2; go_ret; (exact ⟨by first | rfl | (simp; done) | (simp only [← hji4] <;> (first | rfl | simp)) | (simp [*]; done), by repeat (first | exact Drawn0.refl _ | apply Drawn0.step)⟩)
   (· rw [if_neg c6] at h; exact absurd h (by simp))
 (· rw [if_neg c5] at h; exact absurd h (by simp))
theorem rabin_Window.calls (k : Nat) (A0 : Option Addr) (c0 : Nat) (l0 : List Int) (r : Int) (w : World) (hr0 : Kd.C (Kd.int .u8) w A0 l0.length l0) (hc0 : l0.length ≤ c0) (h : rabin_Window.f k l0 = some r) :
    Calls Try.prog 30 #[.slice A0 l0.length c0] w fun e w' => e = .returned (.int .u64 r) ∧ Below w.heap.size w w' := by
 have HR0 := aM_ hr0; have HC0 := aM_ hc0; clear hr0 hc0; have HB := aM_ (Below.refl w.heap.size w); replace h := Option.bind_eq_some_iff.mp (show ((rabin_table.f k).bind fun t109 => (rabin_Window.l0 k t109 0 l0 (l0.length : Int) 0)) = some r from h); obtain ⟨t109, A20, H⟩ := h; have A2 := aM_ A20; have H' := aM_ H; clear H A20; (go_enter Try.func30, Try.ntmps30); (go_upto_region 1 with (fail)); refine wp_region_lit ?_; refine goesL_ (some 7) rfl rfl Try.func45 (by kernel_rfl) rfl #[] rfl (by (try simp only [mA_, mC_, mN_]); first | done | rfl) ?_; refine (rabin_table.calls k t109 _ A2.out).mono ?_; rintro e w3 ⟨hl_, rfl, hb⟩; refine ⟨_, rfl, ?_⟩; have HL := aM_ hl_; have n1_ := aM_ (bT_ HB.out hb); clear HB hb hl_; have HB := n1_; clear n1_; refine box_event ?hg (N := 3) ?hd (cs := arr64 (List.replicate 256 0)) (t := 95) ?hr ?_
 case hd => rfl
 case hg => rfl
 case hr => first | (go_simp; done) | (go_simp; rfl)
 intro gt hg w4 hbox hb; have n1_ := aM_ (bT_ HB.out hb); have GT := aM_ (show w.heap.size ≤ gt by rw [hg]; exact bZ_ HB.out); have hs1 := aM_ (run_storeVar_row (P := Try.prog) w4 gt 95 95 (arr64 (List.replicate 256 0)) (arr64 t109) hbox (by rw [arr64_size, HL.out]; kernel_rfl) (by rw [arr64_size, arr64_size, HL.out]; rfl) (arr64_one t109)); have hblk := setRow_heap w4 gt (arr64 (List.replicate 256 0)) (arr64 t109) 95 (0, 0) hbox; have HX := aM_ hblk; have n2_ := aM_ (below_setRow64 n1_.out GT.out (arr64 t109)); clear HB hb hg hbox hblk n1_; have HB := n2_; clear n2_; refine store_event (w1 := w4.setRow gt (arr64 t109)) rfl rfl rfl (storeRow_run hs1.out rfl rfl) ?_; intro w5 hw; subst hw; clear hs1; generalize w4.setRow gt (arr64 t109) = w5 at HX HB ⊢; go_wp2; (go_loopg [4, 10] k (fun kq v4 v10 w' => ∃ (x4_1 : Int) (x10_1 : Int), v4 = .int .u64 x4_1 ∧ v10 = .int .i64 x10_1 ∧ Aside0 (rabin_Window.l0 kq t109 x4_1 l0 (l0.length : Int) x10_1 = some r) ∧ Aside0 (kq ≤ k) ∧ Aside0 (w'.heap[gt]? = some (.cells (arr64 t109) 95 (0, 0))) ∧ Aside0 (Below w.heap.size w w')))
 case atStart => exact ⟨(0), (0), (by first | rfl | (simp; done) | (simp [*]; done)), (by first | rfl | (simp; done) | (simp [*]; done)), H', ⟨Nat.le_refl _⟩, ⟨kZ_ HX.out⟩, ⟨bZ0_ HB.out⟩⟩
 case round =>
  clear H'; obtain ⟨x4_1, x10_1, rfl, rfl, HA, HK1, HX1, HB⟩ := hrel
  cases gk with
  | zero => exact absurd HA.out (by simp [rabin_Window.l0])
  | succ k1 =>
   have H := HA.out; clear HA; simp only [rabin_Window.l0] at H; (by_cases c4 : x10_1 < (l0.length : Int))
   · rw [if_pos c4] at H
     have c4b0 : decide (x10_1 < (l0.length : Int)) = true := dT_ c4; (by_cases c5 : 0 ≤ x10_1)
     · rw [if_pos c5, if_pos c4] at H
       replace H := Option.bind_eq_some_iff.mp H; obtain ⟨t113, A70, H⟩ := H; have A7 := aM_ A70; clear A70; have H' := aM_ H; clear H; have p112 := c5; have q112 := c4; clear c4 c5; obtain ⟨ad112, e112, hx112_0⟩ := Kd.at_int HR0.out x10_1 p112 q112; (cases e112); replace hx112_0 := (HB.out.cell (lC_ w _ hx112_0)).trans hx112_0; replace p112 := eq_true p112; replace q112 := eq_true q112; (go_wp2_with (first | ((with_reducible refine gate_callee (f := 46) rfl ?_); refine goesL_ (some 16) rfl rfl Try.func46 (by kernel_rfl) rfl #[.pointer (some ⟨gt, 0, none⟩), .int .u64 x4_1, .int .u8 (rd l0 x10_1)] rfl (by (try simp only [mA_, mC_, mN_]); first | done | rfl) ?_; (with_reducible refine (rabin_push.calls gt t109 x4_1 (rd l0 x10_1) t113 _ ?side1 HL.out A7.out).mono ?_); (case side1 => exact kZ_ HX1.out); rintro e w' ⟨rfl, ⟨nd, rfl⟩⟩; refine ⟨_, rfl, ?_⟩))); (go_roundg k1)
       case measure => have := HK1.out; omega
       case rel => exact ⟨(t113), (wrap64 (x10_1 + 1)), (by first | rfl | (simp; done) | (simp [*]; done)), (by first | rfl | (simp; done) | (simp [*]; done)), H', ⟨by have := HK1.out; omega⟩, ⟨kZ_ HX1.out⟩, ⟨bZ0_ HB.out⟩⟩
     (· rw [if_neg c5] at H; exact absurd H (by simp))
   (· rw [if_neg c4] at H; have c4b0 : decide (x10_1 < (l0.length : Int)) = false := decide_eq_false c4; clear c4; obtain rfl := oJ_ H; go_wp2; go_ret; (exact ⟨by first | rfl | (simp [errW_none, errW_some] <;> rfl) | (simp [*, errW_none, errW_some] <;> rfl), by exact bZ0_ HB.out⟩))
def rabin_Push.f (k : Nat) (a0 : Int) (a1 : Int) : Option (Int) := (rabin_Mod.f k a0).bind fun t103 => ((rabin_Mod.f k (Go.bits .or .u64 (IntKind.u64.wrap (t103 * 256)) (IntKind.u64.wrap (a1)))).bind fun t104 => (some t104))
theorem rabin_Push.mono : ∀ a0 a1 k, LeO (rabin_Push.f k a0 a1) (rabin_Push.f (k + 1) a0 a1) := by
 intro a0 a1 k; unfold rabin_Push.f
 repeat' first
     | (with_reducible exact rabin_Mod.mono _ _)
     | (with_reducible exact LeO.refl _)
     | (with_reducible exact LeO.none _)
     | (with_reducible refine LeO.ite ?_ ?_)
     | (with_reducible refine LeO.bind ?_ (fun _ => ?_))
     | exact LeO.none _
     | refine LeO.ite ?_ ?_
     | refine LeO.bind ?_ (fun _ => ?_)
theorem rabin_Push.calls (k : Nat) (a0 : Int) (a1 : Int) (r : Int) (w : World) (h : rabin_Push.f k a0 a1 = some r) :
    Calls Try.prog 48 #[.int .u64 a0, .int .u8 a1] w fun e w' => e = .returned (.int .u64 r) ∧ Drawn0 w w' := by
 have H : ((rabin_Mod.f k a0).bind fun t103 => ((rabin_Mod.f k (Go.bits .or .u64 (IntKind.u64.wrap (t103 * 256)) (IntKind.u64.wrap (a1)))).bind fun t104 => (some t104))) = some r := h; clear h; replace H := Option.bind_eq_some_iff.mp H; obtain ⟨t103, A30, H⟩ := H; replace H : ((rabin_Mod.f k (Go.bits .or .u64 (IntKind.u64.wrap (t103 * 256)) (IntKind.u64.wrap (a1)))).bind fun t104 => (some t104)) = some r := H; have A3 := aM_ A30; clear A30; replace H := Option.bind_eq_some_iff.mp H; obtain ⟨t104, A40, H⟩ := H; replace H : (some t104) = some r := H; have A4 := aM_ A40; clear A40; obtain rfl := oJ_ H; simp only [oI_, pI_] at H; obtain ⟨rfl⟩ := H; (go_enter Try.func48, Try.ntmps48); (go_wp2_with (first | ((with_reducible refine gate_callee (f := 47) rfl ?_); refine goesL_ (some 6) rfl rfl Try.func47 (by kernel_rfl) rfl #[.int .u64 a0] rfl (by (try simp only [mA_, mC_, mN_]); first | done | rfl | (simp only [lD_, lT_]; rfl)) ?_; (with_reducible refine (rabin_Mod.calls k a0 t103 _ A3.out).mono ?_); rintro e w' ⟨rfl, ⟨nd, rfl⟩⟩; refine ⟨_, rfl, ?_⟩) | ((with_reducible refine gate_callee (f := 47) rfl ?_); refine goesL_ (some 11) rfl rfl Try.func47 (by kernel_rfl) rfl #[.int .u64 (Go.bits .or .u64 (IntKind.u64.wrap (t103 * 256)) (IntKind.u64.wrap (a1)))] rfl (by (try simp only [mA_, mC_, mN_]); first | done | rfl | (simp only [lD_, lT_]; rfl)) ?_; (with_reducible refine (rabin_Mod.calls k (Go.bits .or .u64 (IntKind.u64.wrap (t103 * 256)) (IntKind.u64.wrap (a1))) t104 _ A4.out).mono ?_); rintro e w' ⟨rfl, ⟨nd, rfl⟩⟩; refine ⟨_, rfl, ?_⟩))); go_ret; exact ⟨by first | rfl | (simp; done) | (simp [*]; done), by repeat (first | exact Drawn0.refl _ | apply Drawn0.step)⟩
def rabin_Roll.l0 : Nat → Int → Int → Int → Int → Option (Int)
  | 0, _, _, _, _ => none
  | k + 1, x0, x2, x7, x10 => if x10 < 16 then ((rabin_Mod.f k (IntKind.u64.wrap (x7 * 256))).bind fun t105 => (rabin_Roll.l0 k x0 x2 t105 (wrap64 (x10 + 1)))) else ((rabin_Push.f k x0 x2).bind fun t106 => (some (Go.bits .xor .u64 t106 x7)))
def rabin_Roll.f (k : Nat) (a0 : Int) (a1 : Int) (a2 : Int) : Option (Int) := rabin_Roll.l0 k a0 a2 (IntKind.u64.wrap (a1)) 0
theorem rabin_Roll.mono_l : ∀ k, (∀ y0 y1 y2 y3, LeO (rabin_Roll.l0 k y0 y1 y2 y3) (rabin_Roll.l0 (k + 1) y0 y1 y2 y3))
  | 0 => fun _ _ _ _ r h => by simp [rabin_Roll.l0] at h
  | k + 1 => by
    have ih0 := rabin_Roll.mono_l k
    · intro y0 y1 y2 y3
      unfold rabin_Roll.l0
      repeat' first
      | (with_reducible exact ih0 _ _ _ _)
      | (with_reducible exact rabin_Mod.mono _ _)
      | (with_reducible exact rabin_Push.mono _ _ _)
      | (with_reducible exact LeO.refl _)
      | (with_reducible exact LeO.none _)
      | (with_reducible refine LeO.ite ?_ ?_)
      | (with_reducible refine LeO.bind ?_ (fun _ => ?_))
      | exact ih0 _ _ _ _
      | exact LeO.none _
      | refine LeO.ite ?_ ?_
      | refine LeO.bind ?_ (fun _ => ?_)
theorem rabin_Roll.mono : ∀ a0 a1 a2 k, LeO (rabin_Roll.f k a0 a1 a2) (rabin_Roll.f (k + 1) a0 a1 a2) := by
 intro a0 a1 a2 k; have ih0 := rabin_Roll.mono_l k; unfold rabin_Roll.f
 repeat' first
     | (with_reducible exact ih0 _ _ _ _)
     | (with_reducible exact rabin_Mod.mono _ _)
     | (with_reducible exact rabin_Push.mono _ _ _)
     | (with_reducible exact LeO.refl _)
     | (with_reducible exact LeO.none _)
     | (with_reducible refine LeO.ite ?_ ?_)
     | (with_reducible refine LeO.bind ?_ (fun _ => ?_))
     | exact ih0 _ _ _ _
     | exact LeO.none _
     | refine LeO.ite ?_ ?_
     | refine LeO.bind ?_ (fun _ => ?_)
theorem rabin_Roll.calls (k : Nat) (a0 : Int) (a1 : Int) (a2 : Int) (r : Int) (w : World) (h : rabin_Roll.f k a0 a1 a2 = some r) :
    Calls Try.prog 31 #[.int .u64 a0, .int .u8 a1, .int .u8 a2] w fun e w' => e = .returned (.int .u64 r) ∧ Drawn0 w w' := by
 have H : (rabin_Roll.l0 k a0 a2 (IntKind.u64.wrap (a1)) 0) = some r := h; clear h; have H' := aM_ H; clear H; (go_enter Try.func31, Try.ntmps31); go_wp2; (go_loopg [7, 10] k (fun kq v7 v10 w' => ∃ (x7_1 : Int) (x10_1 : Int), v7 = .int .u64 x7_1 ∧ v10 = .int .i64 x10_1 ∧ Aside0 (rabin_Roll.l0 kq a0 a2 x7_1 x10_1 = some r) ∧ Aside0 (kq ≤ k) ∧ Drawn0 w w'))
 case atStart => exact ⟨(IntKind.u64.wrap (a1)), (0), (by first | rfl | (simp; done) | (simp [*]; done)), (by first | rfl | (simp; done) | (simp [*]; done)), H', ⟨Nat.le_refl _⟩, by repeat (first | exact Drawn0.refl _ | apply Drawn0.step)⟩
 case round =>
  clear H'; (try clear p2); (try clear c3); obtain ⟨x7_1, x10_1, rfl, rfl, HA, HK1, ⟨m1, rfl⟩⟩ := hrel
  cases gk with
  | zero => exact absurd HA.out (by simp [rabin_Roll.l0])
  | succ k1 =>
   have H := HA.out; clear HA; simp only [rabin_Roll.l0] at H; (by_cases c4 : x10_1 < 16)
   · rw [if_pos c4] at H
     have c4b0 : decide (x10_1 < 16) = true := dT_ c4; clear c4; replace H := Option.bind_eq_some_iff.mp H; obtain ⟨t105, A50, H⟩ := H; replace H : (rabin_Roll.l0 k1 a0 a2 t105 (wrap64 (x10_1 + 1))) = some r := H; have A5 := aM_ A50; clear A50; have H' := aM_ H; clear H; (go_wp2_with (first | ((with_reducible refine gate_callee (f := 47) rfl ?_); refine goesL_ (some 14) rfl rfl Try.func47 (by kernel_rfl) rfl #[.int .u64 (IntKind.u64.wrap (x7_1 * 256))] rfl (by (try simp only [mA_, mC_, mN_]); first | done | rfl | (simp only [lD_, lT_]; rfl)) ?_; (with_reducible refine (rabin_Mod.calls k1 (IntKind.u64.wrap (x7_1 * 256)) t105 _ A5.out).mono ?_); rintro e w' ⟨rfl, ⟨nd, rfl⟩⟩; refine ⟨_, rfl, ?_⟩))); (go_roundg k1)
     case measure => have := HK1.out; omega
     case rel => exact ⟨(t105), (wrap64 (x10_1 + 1)), (by first | rfl | (simp; done) | (simp [*]; done)), (by first | rfl | (simp; done) | (simp [*]; done)), H', ⟨by have := HK1.out; omega⟩, by repeat (first | exact Drawn0.refl _ | apply Drawn0.step)⟩
   (· rw [if_neg c4] at H; have c4b0 : decide (x10_1 < 16) = false := decide_eq_false c4; clear c4; replace H := Option.bind_eq_some_iff.mp H; obtain ⟨t106, A60, H⟩ := H; replace H : (some (Go.bits .xor .u64 t106 x7_1)) = some r := H; have A6 := aM_ A60; clear A60; obtain rfl := oJ_ H; simp only [oI_, pI_] at H; obtain ⟨rfl⟩ := H; (go_wp2_with (first | ((with_reducible refine gate_callee (f := 48) rfl ?_); refine goesL_ (some 18) rfl rfl Try.func48 (by kernel_rfl) rfl #[.int .u64 a0, .int .u8 a2] rfl (by (try simp only [mA_, mC_, mN_]); first | done | rfl | (simp only [lD_, lT_]; rfl)) ?_; (with_reducible refine (rabin_Push.calls k1 a0 a2 t106 _ A6.out).mono ?_); rintro e w' ⟨rfl, ⟨nd, rfl⟩⟩; refine ⟨_, rfl, ?_⟩))); go_ret; exact ⟨by first | rfl | (simp; done) | (simp [*]; done), by repeat (first | exact Drawn0.refl _ | apply Drawn0.step)⟩)
def cut_First.l0 : Nat → List Int → Int → Int → Int → Option (Int)
  | 0, _, _, _, _ => none
  | k + 1, x0, x3, x4, x5 => if (Go.bits .and .u64 x3 1023) = 1023 then (some x5) else (if x5 = x4 then (some x5) else (if 0 ≤ (wrap64 (x5 - 16)) then (if (wrap64 (x5 - 16)) < (x0.length : Int) then (if 0 ≤ x5 then (if x5 < (x0.length : Int) then ((rabin_Roll.f k x3 (rd x0 (wrap64 (x5 - 16))) (rd x0 x5)).bind fun t122 => (cut_First.l0 k x0 t122 x4 (wrap64 (x5 + 1)))) else (none)) else (none)) else (none)) else (none)))
def cut_First.f (k : Nat) (l0 : List Int) : Option (Int) := if (l0.length : Int) ≤ 512 then (some (l0.length : Int)) else (if 496 ≤ 512 then (if 512 ≤ (l0.length : Int) then ((rabin_Window.f k ((l0.take 512).drop 496)).bind fun t119 => (cut_First.l0 k l0 t119 (mn (l0.length : Int) 2048) 512)) else (none)) else (none))
theorem cut_First.mono_l : ∀ k, (∀ y0 y1 y2 y3, LeO (cut_First.l0 k y0 y1 y2 y3) (cut_First.l0 (k + 1) y0 y1 y2 y3))
  | 0 => fun _ _ _ _ r h => by simp [cut_First.l0] at h
  | k + 1 => by
    have ih0 := cut_First.mono_l k
    · intro y0 y1 y2 y3
      unfold cut_First.l0
      repeat' first
      | (with_reducible exact ih0 _ _ _ _)
      | (with_reducible exact rabin_Roll.mono _ _ _ _)
      | (with_reducible exact rabin_Window.mono _ _)
      | (with_reducible exact LeO.refl _)
      | (with_reducible exact LeO.none _)
      | (with_reducible refine LeO.ite ?_ ?_)
      | (with_reducible refine LeO.bind ?_ (fun _ => ?_))
      | exact ih0 _ _ _ _
      | exact LeO.none _
      | refine LeO.ite ?_ ?_
      | refine LeO.bind ?_ (fun _ => ?_)
theorem cut_First.mono : ∀ a0 k, LeO (cut_First.f k a0) (cut_First.f (k + 1) a0) := by
 intro a0 k; have ih0 := cut_First.mono_l k; unfold cut_First.f
 repeat' first
     | (with_reducible exact ih0 _ _ _ _)
     | (with_reducible exact rabin_Roll.mono _ _ _ _)
     | (with_reducible exact rabin_Window.mono _ _)
     | (with_reducible exact LeO.refl _)
     | (with_reducible exact LeO.none _)
     | (with_reducible refine LeO.ite ?_ ?_)
     | (with_reducible refine LeO.bind ?_ (fun _ => ?_))
     | exact ih0 _ _ _ _
     | exact LeO.none _
     | refine LeO.ite ?_ ?_
     | refine LeO.bind ?_ (fun _ => ?_)
theorem cut_First.calls (k : Nat) (A0 : Option Addr) (c0 : Nat) (l0 : List Int) (r : Int) (w : World) (hr0 : Kd.C (Kd.int .u8) w A0 l0.length l0) (hc0 : l0.length ≤ c0) (h : cut_First.f k l0 = some r) :
    Calls Try.prog 18 #[.slice A0 l0.length c0] w fun e w' => e = .returned (.int .i64 r) ∧ Below w.heap.size w w' := by
 have HR0 := aM_ hr0; have HC0 := aM_ hc0; clear hr0 hc0; have HB := aM_ (Below.refl w.heap.size w); have H : (if (l0.length : Int) ≤ 512 then (some (l0.length : Int)) else (if 496 ≤ 512 then (if 512 ≤ (l0.length : Int) then ((rabin_Window.f k ((l0.take 512).drop 496)).bind fun t119 => (cut_First.l0 k l0 t119 (mn (l0.length : Int) 2048) 512)) else (none)) else (none))) = some r := h; clear h; (by_cases c2 : (l0.length : Int) ≤ 512)
 · rw [if_pos c2] at H
   have c2b0 : decide ((l0.length : Int) ≤ 512) = true := dT_ c2; have c2b1 : decide (l0.length ≤ 512) = true := dT_ (by omega); clear c2; obtain rfl := oJ_ H; simp only [oI_, pI_] at H; obtain ⟨rfl⟩ := H; (go_enter Try.func18, Try.ntmps18); go_wp2; refine wp_scope_straight ?_; go_wp2; (try (apply wp_label; go_wp2))
   repeat (go_quiet (fail); try go_wp2)
   (try simp only [Exit.noGoto_ret]); go_ret; (exact ⟨by first | rfl | (simp [errW_none, errW_some] <;> rfl) | (simp [*, errW_none, errW_some] <;> rfl), by exact bZ0_ HB.out⟩)
 · rw [if_neg c2] at H
   have c2b0 : decide ((l0.length : Int) ≤ 512) = false := decide_eq_false c2; have c2b1 : decide (l0.length ≤ 512) = false := decide_eq_false (by omega); clear c2; (by_cases c3 : 496 ≤ 512)
   · rw [if_pos c3] at H
     have c3b0 := eq_true c3; have c3b1 : decide (496 ≤ 512) = true := dT_ c3; clear c3; (by_cases c4 : 512 ≤ (l0.length : Int))
     · rw [if_pos c4] at H
       have c4b0 := eq_true c4; have c4b1 : decide (512 ≤ (l0.length : Int)) = true := dT_ c4; clear c4; replace H := Option.bind_eq_some_iff.mp H; obtain ⟨t119, A50, H⟩ := H; replace H : (cut_First.l0 k l0 t119 (mn (l0.length : Int) 2048) 512) = some r := H; have A5 := aM_ A50; clear A50; obtain ⟨ji6, hji6⟩ : ∃ j_ : Int, (mn (l0.length : Int) 2048) = j_ := ⟨_, rfl⟩; (replace H : (cut_First.l0 k l0 t119 ji6 512) = some r := by first | (rw [hji6] at H; exact H) | (simp only [hji6] at H ⊢; exact H)); (try rw [hji6] at A5); (try (have hji6h : ji6 ≤ 2048 := by (rw [← hji6]; unfold mn; (repeat' split) <;> omega))); (try (have hji6g : ji6 ≤ 64 := by omega)); (try (have hji6l : 0 ≤ ji6 := by (rw [← hji6]; unfold mn; (repeat' split) <;> omega))); (try (have hji6m : 0 ≤ ji6 := by omega)); have hji6_ : (if 2048 < (l0.length : Int) then 2048 else (l0.length : Int)) = ji6 := hji6; (try (have hji6_n := hji6_; simp only [Int.ofNat_lt] at hji6_n)); have H' := aM_ H; clear H; obtain ⟨i07, hi07, _, hsz7, _⟩ := info_parts info5; obtain ⟨A7, hcut7, hA7, hC7⟩ := print_mid_of (P := Try.prog) (Value.int .u8) 0 22 5 .i64 .i64 Try.underlying22 hi07 hsz7 A0 c0 l0 496 512 (by omega) (by first | omega | exact oD_ (by assumption)) (oD_ (by assumption)) HC0.out; obtain ⟨lw, hlw⟩ : ∃ y_ : List Int, y_ = (l0.take (512 : Int).toNat).drop (496 : Int).toNat := ⟨_, rfl⟩; (have A5w : rabin_Window.f k lw = some t119 := by rw [hlw]; exact A5.out); have A5 := aM_ A5w; rw [← hlw] at hcut7 hC7; simp only [← hlw] at hA7; clear A5w hlw; have HR118 := aM_ (Kd.C_of_reads (h1 := fun _ => rfl) (hA7 _ (Kd.reads_of_C HR0.out))); have HC118 := aM_ hC7; clear hA7 hC7 hi07 hsz7; (go_enter Try.func18, Try.ntmps18); go_wp2; refine wp_scope_straight ?_; (go_wp2_with (first | (go_at_call 30; (with_reducible refine (rabin_Window.calls k _ _ lw t119 _ ?side1 ?side2 A5.out).mono ?_); (case side1 => exact cZ_ HR118.out); (case side2 => exact HC118.out); rintro e w8 ⟨rfl, hb⟩; have n0_ := aM_ (bT_ (bZ0_ HB.out) hb); clear HB; have HB := n0_; clear n0_; (try clear hb); (try clear hb2); (try clear hk); (try clear hi)))); (try (apply wp_label; go_wp2_with (first | (go_at_call 30; (with_reducible refine (rabin_Window.calls k _ _ lw t119 _ ?side1 ?side2 A5.out).mono ?_); (case side1 => exact cZ_ HR118.out); (case side2 => exact HC118.out); rintro e w8 ⟨rfl, hb⟩; have n0_ := aM_ (bT_ (bZ0_ HB.out) hb); clear HB; have HB := n0_; clear n0_; (try clear hb); (try clear hb2); (try clear hk); (try clear hi)))))
       repeat (go_quiet (first | (go_at_call 30; (with_reducible refine (rabin_Window.calls k _ _ lw t119 _ ?side1 ?side2 A5.out).mono ?_); (case side1 => exact cZ_ HR118.out); (case side2 => exact HC118.out); rintro e w8 ⟨rfl, hb⟩; have n0_ := aM_ (bT_ (bZ0_ HB.out) hb); clear HB; have HB := n0_; clear n0_; (try clear hb); (try clear hb2); (try clear hk); (try clear hi))); try go_wp2_with (first | (go_at_call 30; (with_reducible refine (rabin_Window.calls k _ _ lw t119 _ ?side1 ?side2 A5.out).mono ?_); (case side1 => exact cZ_ HR118.out); (case side2 => exact HC118.out); rintro e w8 ⟨rfl, hb⟩; have n0_ := aM_ (bT_ (bZ0_ HB.out) hb); clear HB; have HB := n0_; clear n0_; (try clear hb); (try clear hb2); (try clear hk); (try clear hi))))
       (go_loopg [3, 5] k (fun kq v3 v5 w' => ∃ (x3_1 : Int) (x5_1 : Int), v3 = .int .u64 x3_1 ∧ v5 = .int .i64 x5_1 ∧ Aside0 (cut_First.l0 kq l0 x3_1 ji6 x5_1 = some r) ∧ Aside0 (kq ≤ k) ∧ Aside0 (Below w.heap.size w w')))
       case atStart => exact ⟨(t119), (512), (by first | rfl | (simp; done) | (simp [*]; done)), (by first | rfl | (simp; done) | (simp [*]; done)), H', ⟨Nat.le_refl _⟩, ⟨bZ0_ HB.out⟩⟩
       case round =>
        clear H'; (try clear c1); (try clear c2); (try clear c2b0); (try clear c2b1); (try clear p2); (try clear c3); (try clear c3b0); (try clear c3b1); (try clear c4); (try clear c4b0); (try clear c4b1); obtain ⟨x3_1, x5_1, rfl, rfl, HA, HK1, HB⟩ := hrel
        cases gk with
        | zero => exact absurd HA.out (by simp [cut_First.l0])
        | succ k1 =>
         have H := HA.out; clear HA; simp only [cut_First.l0] at H; (by_cases c9 : (Go.bits .and .u64 x3_1 1023) = 1023)
         · rw [if_pos c9] at H
           have c9b0 : ((Go.bits .and .u64 x3_1 1023) == 1023) = true := beq_iff_eq.mpr c9; have c9b1 : ((Go.bits .and .u64 x3_1 1023) != 1023) = false := bne_eq_false_iff_eq.mpr c9; clear c9; obtain rfl := oJ_ H; simp only [oI_, pI_] at H; obtain ⟨rfl⟩ := H; go_wp2; (try (apply wp_label; go_wp2))
           repeat (go_quiet (fail); try go_wp2)
           (try simp only [Exit.noGoto_ret]); go_ret; (exact ⟨by first | rfl | (simp [errW_none, errW_some] <;> rfl) | (simp only [← hji6]; first | rfl | (simp [errW_none, errW_some] <;> rfl)) | (simp [*, errW_none, errW_some] <;> rfl), by exact bZ0_ HB.out⟩)
         · rw [if_neg c9] at H
           have c9b0 : ((Go.bits .and .u64 x3_1 1023) == 1023) = false := beq_eq_false_iff_ne.mpr c9; have c9b1 : ((Go.bits .and .u64 x3_1 1023) != 1023) = true := bne_iff_ne.mpr c9; (by_cases c10 : x5_1 = ji6)
           · rw [if_pos c10] at H
             have c10b0 : (x5_1 == ji6) = true := beq_iff_eq.mpr c10; have c10b1 : (x5_1 != ji6) = false := bne_eq_false_iff_eq.mpr c10; clear c10; obtain rfl := oJ_ H; simp only [oI_, pI_] at H; obtain ⟨rfl⟩ := H; go_wp2; (try (apply wp_label; go_wp2))
             repeat (go_quiet (fail); try go_wp2)
             (try simp only [Exit.noGoto_ret]); go_ret; (exact ⟨by first | rfl | (simp [errW_none, errW_some] <;> rfl) | (simp only [← hji6]; first | rfl | (simp [errW_none, errW_some] <;> rfl)) | (simp [*, errW_none, errW_some] <;> rfl), by exact bZ0_ HB.out⟩)
           · rw [if_neg c10] at H
             have c10b0 : (x5_1 == ji6) = false := beq_eq_false_iff_ne.mpr c10; have c10b1 : (x5_1 != ji6) = true := bne_iff_ne.mpr c10; obtain ⟨ji11, hji11⟩ : ∃ j_ : Int, (wrap64 (x5_1 - 16)) = j_ := ⟨_, rfl⟩; (replace H : (if 0 ≤ (ji11) then (if (ji11) < (l0.length : Int) then (if 0 ≤ x5_1 then (if x5_1 < (l0.length : Int) then ((rabin_Roll.f k1 x3_1 (rd l0 (ji11)) (rd l0 x5_1)).bind fun t122 => (cut_First.l0 k1 l0 t122 ji6 (wrap64 (x5_1 + 1)))) else (none)) else (none)) else (none)) else (none)) = some r := by first | (rw [hji11] at H; exact H) | (simp only [hji11] at H ⊢; exact H)); have hji11w : (IntKind.i64.wrap (x5_1 - 16)) = ji11 := (i64_w _).trans hji11; (by_cases c12 : 0 ≤ (ji11))
             · rw [if_pos c12] at H
               have c12b0 : decide (0 ≤ (ji11)) = true := dT_ c12; clear c12; (by_cases c13 : (ji11) < (l0.length : Int))
               · rw [if_pos c13] at H
                 have c13b0 : decide ((ji11) < (l0.length : Int)) = true := dT_ c13; clear c13; (by_cases c14 : 0 ≤ x5_1)
                 · rw [if_pos c14] at H
                   have c14b0 : decide (0 ≤ x5_1) = true := dT_ c14; clear c14; (by_cases c15 : x5_1 < (l0.length : Int))
                   · rw [if_pos c15] at H
                     have c15b0 : decide (x5_1 < (l0.length : Int)) = true := dT_ c15; clear c15; replace H := Option.bind_eq_some_iff.mp H; obtain ⟨t122, A160, H⟩ := H; replace H : (cut_First.l0 k1 l0 t122 ji6 (wrap64 (x5_1 + 1))) = some r := H; have A16 := aM_ A160; clear A160; have H' := aM_ H; clear H; have p120 : 0 ≤ ((ji11) : Int) := oD_ (by assumption); have q120 : (ji11) < (l0.length : Int) := oD_ (by assumption); obtain ⟨ad120, e120, hx120_0⟩ := Kd.at_int HR0.out (ji11) p120 q120; (cases e120); replace hx120_0 := (HB.out.cell (lC_ w _ hx120_0)).trans hx120_0; replace p120 := eq_true p120; replace q120 := eq_true q120; have p121 : 0 ≤ (x5_1 : Int) := oD_ (by assumption); have q121 : x5_1 < (l0.length : Int) := oD_ (by assumption); obtain ⟨ad121, e121, hx121_0⟩ := Kd.at_int HR0.out x5_1 p121 q121; obtain rfl : ad120 = ad121 := (by injection e121); replace hx121_0 := (HB.out.cell (lC_ w _ hx121_0)).trans hx121_0; replace p121 := eq_true p121; replace q121 := eq_true q121; (go_wp2_with (first | (go_at_call 31; (with_reducible refine (rabin_Roll.calls k1 x3_1 (rd l0 (ji11)) (rd l0 x5_1) t122 _ A16.out).mono ?_); rintro e w' ⟨rfl, ⟨nd, rfl⟩⟩; (try first | exact ⟨rfl, _, World.drewN_drewN _ _ _⟩ | exact ⟨rfl, _, Eq.trans (World.drewN_drewN _ _ _) (congrArg (World.drewN _) (Nat.add_assoc _ _ _))⟩)))); (try (apply wp_label; go_wp2_with (first | (go_at_call 31; (with_reducible refine (rabin_Roll.calls k1 x3_1 (rd l0 (ji11)) (rd l0 x5_1) t122 _ A16.out).mono ?_); rintro e w' ⟨rfl, ⟨nd, rfl⟩⟩; (try first | exact ⟨rfl, _, World.drewN_drewN _ _ _⟩ | exact ⟨rfl, _, Eq.trans (World.drewN_drewN _ _ _) (congrArg (World.drewN _) (Nat.add_assoc _ _ _))⟩)))))
                     repeat (go_quiet (first | (go_at_call 31; (with_reducible refine (rabin_Roll.calls k1 x3_1 (rd l0 (ji11)) (rd l0 x5_1) t122 _ A16.out).mono ?_); rintro e w' ⟨rfl, ⟨nd, rfl⟩⟩; (try first | exact ⟨rfl, _, World.drewN_drewN _ _ _⟩ | exact ⟨rfl, _, Eq.trans (World.drewN_drewN _ _ _) (congrArg (World.drewN _) (Nat.add_assoc _ _ _))⟩))); try go_wp2_with (first | (go_at_call 31; (with_reducible refine (rabin_Roll.calls k1 x3_1 (rd l0 (ji11)) (rd l0 x5_1) t122 _ A16.out).mono ?_); rintro e w' ⟨rfl, ⟨nd, rfl⟩⟩; (try first | exact ⟨rfl, _, World.drewN_drewN _ _ _⟩ | exact ⟨rfl, _, Eq.trans (World.drewN_drewN _ _ _) (congrArg (World.drewN _) (Nat.add_assoc _ _ _))⟩))))
                     (go_roundg k1)
                     case measure => have := HK1.out; omega
                     case rel => exact ⟨(t122), (wrap64 (x5_1 + 1)), (by first | rfl | (simp; done) | (simp [*]; done)), (by first | rfl | (simp; done) | (simp [*]; done)), H', ⟨by have := HK1.out; omega⟩, ⟨bZ0_ HB.out⟩⟩
                   (· rw [if_neg c15] at H; exact absurd H (by simp))
                 (· rw [if_neg c14] at H; exact absurd H (by simp))
               (· rw [if_neg c13] at H; exact absurd H (by simp))
             (· rw [if_neg c12] at H; exact absurd H (by simp))
     (· rw [if_neg c4] at H; exact absurd H (by simp))
   (· rw [if_neg c3] at H; exact absurd H (by simp))
def bytes_Clone.f (l0 : List Int) : Option (List Int) := if l0.length < 140737488355328 then some l0 else none
set_option maxHeartbeats 4000000 in
theorem bytes_Clone.calls (A0 : Option Addr) (c0 : Nat) (l0 : List Int) (r : List Int) (w : World) (hr0 : Kd.C (Kd.int .u8) w A0 l0.length l0) (hc0 : l0.length ≤ c0) (h : bytes_Clone.f l0 = some r) :
    Calls Try.prog 19 #[.slice A0 l0.length c0] w fun e w' => ∃ v0_ : Value, e = .returned (v0_) ∧ Kd.R (Kd.int .u8) 5 w' w.heap.size (fun _ => True) v0_ r ∧ Below w.heap.size w w' := by
 have HB := aM_ (Below.refl w.heap.size w); unfold bytes_Clone.f at h; (by_cases c1 : l0.length < 140737488355328)
 · rw [if_pos c1] at h
   obtain rfl := oJ_ h; clear h; (by_cases hA : A0 = none)
   · subst hA
     have hl : l0 = [] := by
      cases l0 with
      | nil => rfl
      | cons x xs =>
       obtain ⟨ad, he, _⟩ := hr0.2.2 (by simp); (cases he)
     subst hl; have heq := fun w => Lib.run_eql_slice_nil (P := Try.prog) w 22 5 none 0 c0 0 0 Try.underlying22; have HR0 := aM_ hr0; clear hr0 hc0 c1; (go_enter Try.func19, Try.ntmps19); go_wp2; go_ret; exact ⟨_, rfl, Kd.R_nil _ _ _ _ _, by exact bZ0_ HB.out⟩
   · obtain ⟨a, rfl⟩ := Option.ne_none_iff_exists'.mp hA
     clear hA; have heq := fun w => Lib.run_eql_slice_nil (P := Try.prog) w 22 5 (some a) l0.length c0 0 0 Try.underlying22; simp only [Option.isNone_some] at heq; have HR0 := aM_ hr0; have HC0 := aM_ hc0; have LM := aM_ c1; clear hr0 hc0 c1; obtain ⟨y1, hy1⟩ : ∃ y_ : List Int, y_ = ([] : List Int) := ⟨_, rfl⟩; have Ny1 := aM_ hy1; clear hy1; obtain ⟨y2, hy2⟩ : ∃ y_ : List Int, y_ = y1 ++ l0 := ⟨_, rfl⟩; have Ny2 := aM_ hy2; clear hy2; (go_enter Try.func19, Try.ntmps19)
     go_wp2_with (first | ((with_reducible refine gate_dst (N := 5) rfl ?_); refine Kd.R_lit (Kd.int .u8) _ 5 ?hg (N := 5) ?hd (xs := ([] : List Int)) (inner := []) (ok := fun _ => True) (okp := fun _ => True) ?hr ?hp (fun _ hk => hk) trivial (Below.refl _ _) (Nat.le_refl _) (by simp) ?_; (case hd => rfl); (case hg => rfl); (case hr => first | (go_simp; done) | (go_simp; rfl)); (case hp => exact (Reps.none _ _)); intro v1 w5 ho6 hb hg_ hnew_; clear hg_ hnew_; rw [← Ny1.out] at ho6; have n0_ := aM_ (Kd.R_lower ho6 (bZ_ (bZ0_ HB.out))); have n1_ := aM_ (bT_ (bZ0_ HB.out) hb); clear HB; have HO1 := n0_; have HB := n1_; clear n0_ n1_; clear hb ho6) | ((with_reducible refine gate_builtin (b := .append) (xs := #[.tmp 5, .tmp 6]) rfl ?_); at_builtin; refine Kd.R_append_rows (Kd.int .u8) (w0 := w) w.heap.size rfl (.tmp 5) (.tmp 6) 22 5 (.int .u8 0) 1 rfl Try.underlying22 info5 rfl (by decide) (by omega) v1 y1 l0 _ _ _ (fun _ => True) (fun _ => False) rfl rfl ?aO ?aR (fun _ _ h => h) (fun _ h => h.elim) ?aF ?aB ?aS ?aL ?_; (case aR => repeat (first | exact (Kd.C_below HR0.out HB.out) | (with_reducible refine Kd.C_alloc ?_ _) | (with_reducible refine Kd.C_drewN ?_ _) | (with_reducible refine Kd.C_drew ?_))); (case aB => exact (bZ0_ HB.out)); (case aF => exact (fun _ _ => trivial)); (case aO => exact (rZ_ HO1.out)); (case aS => exact (bZ_ (bZ0_ HB.out))); (case aL => have := LM.out; have := Ny1.out; subst this; simp; omega); intro v2 w7 ho hb hg hat; rw [← Ny2.out] at ho; have n0_ := aM_ hb; have n1_ := aM_ ho; clear HB; clear HO1; have HB := n0_; have HO2 := n1_; clear n0_ n1_; clear ho hb hg hat))
     go_ret; (have hfin : y2 = l0 := by rw [Ny2.out, Ny1.out]; rfl); exact ⟨_, rfl, by (with_reducible repeat (first | apply rA_ | apply rN_ | apply rD_)); rw [← hfin]; exact Kd.R_mono HO2.out (fun _ hk => trivial), by exact bZ0_ HB.out⟩
 (· rw [if_neg c1] at h; exact absurd h (by simp))
end Go.Proofs.Ytjjbofbkpmabbaa.Fn
