import Derived.Test.YtjjbofbkpmabbaaRabA
import Derived.Test.YtjjbofbkpmabbaaU
import Derived.Test.YtjjbofbkpmabbaaO
import Derived.Test.YtjjbofbkpmabbaaHx0
import Derived.Test.YtjjbofbkpmabbaaHx1
import Derived.Test.YtjjbofbkpmabbaaHx2
import Derived.Test.YtjjbofbkpmabbaaHx8
import Derived.Test.YtjjbofbkpmabbaaHx9
namespace Go.Proofs.Ytjjbofbkpmabbaa.RabB
open Go.RowKit Go.Proofs.Ytjjbofbkpmabbaa.Fn Go.Proofs.YtjjbofbkpmabbaaW.PrintWords Go.Proofs.YtjjbofbkpmabbaaW.PrintLast Go.Proofs.Ytjjbofbkpmabbaa.U Go.Proofs.Ytjjbofbkpmabbaa.RabA
set_option linter.unusedVariables false
set_option linter.unusedSimpArgs false
theorem wu {x : Int} (h0 : 0 ≤ x) (h1 : x < 18446744073709551616) : IntKind.u64.wrap x = x := by rw [IntKind.wrap_u64]; omega
theorem shl_nat (x m : Nat) (hm : m ≤ 64) (h : x * 2 ^ m < 18446744073709551616) : shl .u64 (x : Int) ((m : Nat) : Int) = ((x <<< m : Nat) : Int) := by
  unfold shl
  have em : min (((m : Nat) : Int).toNat) (IntKind.u64.bits) = m := by
    rw [Int.toNat_natCast]; show min m 64 = m; omega
  rw [em, Nat.shiftLeft_eq]
  have ep : (x : Int) * 2 ^ m = ((x * 2 ^ m : Nat) : Int) := by simp
  rw [ep, wu (by omega) (by omega)]
theorem D_nat {m : Nat} (hm : m ≤ 32) : 2147483657 * 2 ^ m < 18446744073709551616 := by
  have : 2 ^ m ≤ 2 ^ 32 := Nat.pow_le_pow_right (by decide) hm
  have e : (2 : Nat) ^ 32 = 4294967296 := by decide
  omega
theorem DS_lt {m : Nat} (hm : m ≤ 32) : D <<< m < 18446744073709551616 := by
  rw [Nat.shiftLeft_eq]; exact D_nat hm
theorem st_64 {i y : Nat} (hi : i ≤ 63) (hy : y < 18446744073709551616) : st i y < 18446744073709551616 := by
  unfold st
  split
  · have h1 := DS_lt (m := i - 31) (by omega)
    exact Nat.xor_lt_two_pow (n := 64) hy h1
  · exact hy
theorem st_set {m y : Nat} (h : y.testBit (31 + m) = true) : st (31 + m) y = y ^^^ (D <<< m) := by
  unfold st
  rw [if_pos h, show 31 + m - 31 = m by omega]
theorem rmod_loop (m : Nat) : ∀ y : Nat, m ≤ 33 → y < 18446744073709551616 → Ev (fun k => q05_Mod.l0 k (y : Int) ((30 + m : Nat) : Int)) ((red m y : Nat) : Int) := by
  induction m with
  | zero =>
    intro y _ _
    refine Ev.step (fun k => ?_) (Ev.now _)
    simp only [q05_Mod.l0]
    rw [if_neg (by omega)]
    rfl
  | succ m ih =>
    intro y hm hy
    have e1 : IntKind.u64.wrap (((30 + (m + 1) : Nat) : Int)) = ((31 + m : Nat) : Int) := by rw [wu (by omega) (by omega)]; omega
    have e2 : wrap64 (((30 + (m + 1) : Nat) : Int) - 1) = ((30 + m : Nat) : Int) := by rw [w64 (by omega) (by omega)]; omega
    have e3 : IntKind.u64.wrap (wrap64 (((30 + (m + 1) : Nat) : Int) - 31)) = ((m : Nat) : Int) := by rw [w64 (by omega) (by omega), wu (by omega) (by omega)]; omega
    have e4 : shr .u64 (y : Int) ((31 + m : Nat) : Int) = ((y / 2 ^ (31 + m) : Nat) : Int) := shr_nat .u64 y (31 + m) _ rfl (by show 31 + m ≤ 64; omega)
    have e5 : Int.tmod ((y / 2 ^ (31 + m) : Nat) : Int) 2 = ((y / 2 ^ (31 + m) % 2 : Nat) : Int) := by
      rw [Int.tmod_eq_emod_of_nonneg (Int.natCast_nonneg _)]
      rfl
    have e6 : shl .u64 2147483657 ((m : Nat) : Int) = ((D <<< m : Nat) : Int) := shl_nat 2147483657 m (by omega) (D_nat (by omega))
    have e7 : Go.bits .xor .u64 (y : Int) ((D <<< m : Nat) : Int) = ((y ^^^ (D <<< m) : Nat) : Int) := u64_xor_nat _ _ hy (DS_lt (by omega))
    have hs := ih (st (31 + m) y) (by omega) (st_64 (by omega) hy)
    have hb : y.testBit (31 + m) = decide (y / 2 ^ (31 + m) % 2 = 1) := Nat.testBit_eq_decide_div_mod_eq
    cases ht : y.testBit (31 + m)
    · have e8 : st (31 + m) y = y := by unfold st; rw [ht]; rfl
      rw [e8] at hs
      have hrd : red (m + 1) y = red m y := by simp only [red]; rw [e8]
      rw [hrd]
      refine Ev.step (fun k => ?_) hs
      rw [ht] at hb
      have hn : ¬ (y / 2 ^ (31 + m) % 2 = 1) := of_decide_eq_false hb.symm
      simp only [q05_Mod.l0]
      rw [e1, e2, e3, e4, e5]
      rw [if_pos (by omega), if_pos (by omega), if_neg (by omega)]
    · rw [st_set ht] at hs
      have hrd : red (m + 1) y = red m (y ^^^ (D <<< m)) := by simp only [red]; rw [st_set ht]
      rw [hrd]
      refine Ev.step (fun k => ?_) hs
      rw [ht] at hb
      have hn : y / 2 ^ (31 + m) % 2 = 1 := of_decide_eq_true hb.symm
      simp only [q05_Mod.l0]
      rw [e1, e2, e3, e4, e5, e6, e7]
      rw [if_pos (by omega), if_pos (by omega), if_pos (by omega), if_pos (by omega)]
theorem rmod_ev {y : Nat} (hy : y < 18446744073709551616) : Ev (fun k => q05_Mod.f k (y : Int)) ((red 33 y : Nat) : Int) := by
  refine Ev.congr (fun k => ?_) (rmod_loop 33 y (Nat.le_refl _) hy)
  rfl
theorem bitLen_top {m y : Nat} (hm : m ≤ 32) (h1 : 2 ^ (31 + m) ≤ y) (h2 : y < 2 ^ (32 + m)) : Lib.bitLen y = 32 + m := by
  have h64 : y < 2 ^ 64 := Nat.lt_of_lt_of_le h2 (Nat.pow_le_pow_right (by decide) (by omega))
  rw [Lib.bitLen_shift (31 + m) y h1 h64]
  have e : y / 2 ^ (31 + m) = 1 := by
    have e1 : 2 ^ (32 + m) = 2 * 2 ^ (31 + m) := by rw [show 32 + m = 31 + m + 1 by omega, Nat.pow_succ]; omega
    apply Nat.div_eq_of_lt_le <;> omega
  rw [e]
  have : Lib.bitLen 1 = 1 := by decide
  omega
theorem len_eq {y : Nat} (hy : y < 18446744073709551616) : bits_Len64.f (y : Int) = some (Lib.bitLen y : Int) := by
  unfold bits_Len64.f
  rw [if_pos (by omega), if_pos (by omega), Int.toNat_natCast]
theorem mod_loop (m : Nat) : ∀ y : Nat, m ≤ 33 → y < 2 ^ (31 + m) → Ev (fun k => rabin_Mod.l0 k (y : Int) (Lib.bitLen y : Int)) ((red m y : Nat) : Int) := by
  induction m with
  | zero =>
    intro y _ h
    have hb := Lib.bitLen_le y 31 (by decide) h
    refine Ev.step (fun k => ?_) (Ev.now _)
    simp only [rabin_Mod.l0]
    rw [if_neg (by omega)]
    rfl
  | succ m ih =>
    intro y hm h
    have h' : y < 2 ^ (32 + m) := by rw [show 32 + m = 31 + (m + 1) by omega]; exact h
    by_cases hl : y < 2 ^ (31 + m)
    · have e : red (m + 1) y = red m y := by simp only [red]; rw [st_small hl]
      rw [e]
      exact ih y (by omega) hl
    · have hl' : 2 ^ (31 + m) ≤ y := Nat.le_of_not_lt hl
      have hb := bitLen_top (m := m) (by omega) hl' h'
      have hy : y < 18446744073709551616 := Nat.lt_of_lt_of_le h' (show 2 ^ (32 + m) ≤ 2 ^ 64 from Nat.pow_le_pow_right (by decide) (by omega))
      have ht : y.testBit (31 + m) = true := by
        rw [Nat.testBit_eq_decide_div_mod_eq]
        have e1 : 2 ^ (32 + m) = 2 * 2 ^ (31 + m) := by rw [show 32 + m = 31 + m + 1 by omega, Nat.pow_succ]; omega
        have : y / 2 ^ (31 + m) = 1 := by apply Nat.div_eq_of_lt_le <;> omega
        rw [this]; rfl
      have hst := st_set ht
      have hlt : y ^^^ (D <<< m) < 2 ^ (31 + m) := by rw [← hst]; exact st_lt h'
      have h64 : y ^^^ (D <<< m) < 18446744073709551616 := Nat.lt_of_lt_of_le hlt (show 2 ^ (31 + m) ≤ 2 ^ 64 from Nat.pow_le_pow_right (by decide) (by omega))
      have hrd : red (m + 1) y = red m (y ^^^ (D <<< m)) := by simp only [red]; rw [hst]
      rw [hrd]
      have e3a : wrap64 (((32 + m : Nat) : Int) - 31) = ((m + 1 : Nat) : Int) := by rw [w64 (by omega) (by omega)]; omega
      have e3 : wrap64 (wrap64 (((32 + m : Nat) : Int) - 31) - 1) = ((m : Nat) : Int) := by rw [e3a, w64 (by omega) (by omega)]; omega
      have e6 : shl .u64 2147483657 ((m : Nat) : Int) = ((D <<< m : Nat) : Int) := shl_nat 2147483657 m (by omega) (D_nat (by omega))
      have e7 : Go.bits .xor .u64 (y : Int) ((D <<< m : Nat) : Int) = ((y ^^^ (D <<< m) : Nat) : Int) := u64_xor_nat _ _ hy (DS_lt (by omega))
      have hs := ih _ (by omega) hlt
      refine Ev.step (f := fun k => rabin_Mod.l0 k ((y ^^^ (D <<< m) : Nat) : Int) (Lib.bitLen (y ^^^ (D <<< m)) : Int)) (fun k => ?_) hs
      simp only [rabin_Mod.l0]
      rw [hb, e3, e6, e7, if_pos (by omega), if_pos (by omega), len_eq h64]
      rfl
theorem mod_ev {y : Nat} (hy : y < 18446744073709551616) : Ev (fun k => rabin_Mod.f k (y : Int)) ((red 33 y : Nat) : Int) := by
  refine Ev.congr (fun k => ?_) (mod_loop 33 y (Nat.le_refl _) hy)
  unfold rabin_Mod.f
  rw [len_eq hy]
  rfl
theorem shl8 {f b : Nat} (hb : b < 256) : f * 256 + b = (f <<< 8) ^^^ b := by
  apply Nat.eq_of_testBit_eq
  intro i
  rw [Nat.testBit_xor, Nat.testBit_shiftLeft]
  have e : f * 256 + b = 2 ^ 8 * f + b := by omega
  rw [e, Nat.testBit_two_pow_mul_add f hb i]
  by_cases hi : i < 8
  · rw [if_pos hi]; simp [show ¬ (8 ≤ i) by omega]
  · rw [if_neg hi]
    have : b.testBit i = false := Nat.testBit_lt_two_pow (Nat.lt_of_lt_of_le hb (show 2 ^ 8 ≤ 2 ^ i from Nat.pow_le_pow_right (by decide) (by omega)))
    rw [this]; simp [show 8 ≤ i by omega]
theorem or8 {f b : Nat} (hb : b < 256) : (f * 256) ||| b = (f <<< 8) ^^^ b := by
  rw [← shl8 hb]
  have := Nat.two_pow_add_eq_or_of_lt (i := 8) hb f
  have e : 2 ^ 8 * f = f * 256 := by omega
  rw [e] at this
  exact this.symm
theorem or8_int {f b : Nat} (hf : f < 2 ^ 31) (hb : b < 256) : Go.bits .or .u64 (IntKind.u64.wrap ((f : Int) * 256)) (IntKind.u64.wrap (b : Int)) = (((f <<< 8) ^^^ b : Nat) : Int) := by
  have hf' : f < 2147483648 := hf
  rw [wu (by omega) (by omega), wu (by omega) (by omega)]
  have e : (f : Int) * 256 = ((f * 256 : Nat) : Int) := by simp
  rw [e, u64_or_nat _ _ (by omega) (by omega), or8 hb]
theorem rpush_ev {f b : Nat} (hf : f < 2 ^ 31) (hb : b < 256) : Ev (fun k => q05_Push.f k (f : Int) (b : Int)) ((P f b : Nat) : Int) := by
  have hf' : f < 2147483648 := hf
  have h1 := rmod_ev (y := f) (by omega)
  rw [red_id 33 hf] at h1
  have h2 := rmod_ev (y := (f <<< 8) ^^^ b) (Nat.lt_of_lt_of_le (shl8_lt hf hb) (by decide))
  have e : IntKind.u64.wrap (IntKind.u64.wrap ((f : Int) * 256) + IntKind.u64.wrap (b : Int)) = (((f <<< 8) ^^^ b : Nat) : Int) := by
    rw [wu (x := (f : Int) * 256) (by omega) (by omega), wu (x := (b : Int)) (by omega) (by omega), wu (by omega) (by omega), ← shl8 hb]
    simp
  rw [← e] at h2
  exact Ev.bind (f := fun k t => (q05_Mod.f k (IntKind.u64.wrap (IntKind.u64.wrap (t * 256) + IntKind.u64.wrap (b : Int)))).bind fun u => some u) h1 (Ev.bind (f := fun _ u => some u) h2 (Ev.now _))
theorem push_ev {f b : Nat} (hf : f < 2 ^ 31) (hb : b < 256) : Ev (fun k => rabin_Push.f k (f : Int) (b : Int)) ((P f b : Nat) : Int) := by
  have hf' : f < 2147483648 := hf
  have h1 := mod_ev (y := f) (by omega)
  rw [red_id 33 hf] at h1
  have h2 := mod_ev (y := (f <<< 8) ^^^ b) (Nat.lt_of_lt_of_le (shl8_lt hf hb) (by decide))
  rw [← or8_int hf hb] at h2
  exact Ev.bind (f := fun k t => (rabin_Mod.f k (Go.bits .or .u64 (IntKind.u64.wrap (t * 256)) (IntKind.u64.wrap (b : Int)))).bind fun u => some u) h1 (Ev.bind (f := fun _ u => some u) h2 (Ev.now _))
def tab : List Int := (List.range 256).map fun i => ((red 33 (i <<< 31) : Nat) : Int)
theorem table_ev : Ev (fun k => rabin_table.f k) tab := Ev.of rabin_table.mono (k := 400) (by decide +kernel)
theorem tab_length : tab.length = 256 := by simp [tab]
theorem tab_at {i : Nat} (h : i < 256) : rd tab (i : Int) = ((red 33 (i <<< 31) : Nat) : Int) := by
  simp [rd, tab, h]
theorem tpush {f b : Nat} (hf : f < 2 ^ 31) (hb : b < 256) : rabin_push.f tab (f : Int) (b : Int) = some ((P f b : Nat) : Int) := by
  have hx := shl8_lt hf hb
  unfold rabin_push.f
  rw [or8_int hf hb]
  rw [push_split hf hb]
  generalize (f <<< 8) ^^^ b = x at hx
  have hx' : x < 549755813888 := hx
  have e1 : (x : Int) / 2147483648 = ((x / 2 ^ 31 : Nat) : Int) := by omega
  have hq : x / 2 ^ 31 < 256 := by
    have : x / 2147483648 < 256 := by omega
    exact this
  have e2 : Go.bits .and .u64 (x : Int) 2147483647 = ((x % 2 ^ 31 : Nat) : Int) := by
    have := u64_and_nat x 2147483647 (by omega) (by decide)
    rw [show (2147483647 : Nat) = 2 ^ 31 - 1 by decide, Nat.and_two_pow_sub_one_eq_mod] at this
    exact this
  have hr : red 33 ((x / 2 ^ 31) <<< 31) < 2 ^ 31 := red_lt 33 (by
    rw [Nat.shiftLeft_eq]
    have : x / 2147483648 * 2147483648 < 549755813888 := by omega
    exact Nat.lt_of_lt_of_le this (by decide))
  have hm : x % 2 ^ 31 < 2147483648 := Nat.mod_lt _ (by decide)
  rw [e1, e2, tab_at hq, tab_length, if_pos (by omega), if_pos (by omega), u64_xor_nat _ _ (by omega) (Nat.lt_of_lt_of_le hr (by decide))]
theorem win_loop (l : List Nat) (hl : ∀ b ∈ l, b < 256) (hn : l.length < 1099511627776) (d : Nat) : ∀ (i f : Nat), i + d = l.length → f < 2 ^ 31 → Ev (fun k => rabin_Window.l0 k tab (f : Int) (ofN l) (l.length : Int) (i : Int)) ((W f (l.drop i) : Nat) : Int) := by
  induction d with
  | zero =>
    intro i f hi hf
    obtain rfl : i = l.length := by omega
    refine Ev.step (fun k => ?_) (Ev.now _)
    simp only [rabin_Window.l0]
    rw [if_neg (by omega), List.drop_length]
    rfl
  | succ d ih =>
    intro i f hi hf
    have hlt : i < l.length := by omega
    have hb : l[i] < 256 := hl _ (List.getElem_mem hlt)
    have ed : l.drop i = l[i] :: l.drop (i + 1) := List.drop_eq_getElem_cons hlt
    have ew : wrap64 ((i : Int) + 1) = ((i + 1 : Nat) : Int) := by rw [w64 (by omega) (by omega)]; omega
    have er : rd (ofN l) (i : Int) = ((l[i] : Nat) : Int) := by rw [rd_ofN, Int.toNat_natCast]; simp [hlt]
    rw [ed]
    refine Ev.step (fun k => ?_) (ih (i + 1) (P f l[i]) (by omega) (P_lt hf hb))
    simp only [rabin_Window.l0]
    rw [if_pos (by omega), if_pos (by omega), if_pos (by simp [ofN]; omega), er, tpush hf hb, ew]
    rfl
theorem window_ev (l : List Nat) (hl : ∀ b ∈ l, b < 256) (hn : l.length < 1099511627776) : Ev (fun k => rabin_Window.f k (ofN l)) ((W 0 l : Nat) : Int) := by
  have h := win_loop l hl hn l.length 0 0 (by omega) (by decide)
  rw [List.drop_zero] at h
  refine Ev.bind (f := fun k t => rabin_Window.l0 k t 0 (ofN l) ((ofN l).length : Int) 0) table_ev (Ev.congr (fun k => ?_) h)
  simp [ofN]
theorem rwin_loop (l : List Nat) (hl : ∀ b ∈ l, b < 256) (hn : l.length < 1099511627776) (d : Nat) : ∀ (i f : Nat), i + d = l.length → f < 2 ^ 31 → Ev (fun k => q05_Window.l0 k (ofN l) (f : Int) (i : Int)) ((W f (l.drop i) : Nat) : Int) := by
  induction d with
  | zero =>
    intro i f hi hf
    obtain rfl : i = l.length := by omega
    refine Ev.step (fun k => ?_) (Ev.now _)
    simp only [q05_Window.l0]
    rw [if_neg (by simp [ofN]), List.drop_length]
    rfl
  | succ d ih =>
    intro i f hi hf
    have hlt : i < l.length := by omega
    have hb : l[i] < 256 := hl _ (List.getElem_mem hlt)
    have ed : l.drop i = l[i] :: l.drop (i + 1) := List.drop_eq_getElem_cons hlt
    have ew : wrap64 ((i : Int) + 1) = ((i + 1 : Nat) : Int) := by rw [w64 (by omega) (by omega)]; omega
    have er : rd (ofN l) (i : Int) = ((l[i] : Nat) : Int) := by rw [rd_ofN, Int.toNat_natCast]; simp [hlt]
    have eW : W f (l[i] :: l.drop (i + 1)) = W (P f l[i]) (l.drop (i + 1)) := rfl
    have hp := rpush_ev hf hb
    have hq := ih (i + 1) (P f l[i]) (by omega) (P_lt hf hb)
    rw [ed, eW]
    generalize P f l[i] = p at hp hq ⊢
    refine Ev.step (f := fun k => (q05_Push.f k (f : Int) ((l[i] : Nat) : Int)).bind fun t => q05_Window.l0 k (ofN l) t ((i + 1 : Nat) : Int)) (fun k => ?_) (Ev.bind (f := fun k t => q05_Window.l0 k (ofN l) t ((i + 1 : Nat) : Int)) hp hq)
    simp only [q05_Window.l0]
    rw [if_pos (by simp [ofN]; omega), if_pos (by omega), er, ew]
theorem rwindow_ev (l : List Nat) (hl : ∀ b ∈ l, b < 256) (hn : l.length < 1099511627776) : Ev (fun k => q05_Window.f k (ofN l)) ((W 0 l : Nat) : Int) := by
  have h := rwin_loop l hl hn l.length 0 0 (by omega) (by decide)
  rw [List.drop_zero] at h
  exact h
theorem roll_loop (f b : Nat) (hf : f < 2 ^ 31) (hb : b < 256) (d : Nat) : ∀ (i a : Nat), i + d = 16 → a < 2 ^ 31 → Ev (fun k => rabin_Roll.l0 k (f : Int) (b : Int) (a : Int) (i : Int)) ((P f b ^^^ W a (List.replicate d 0) : Nat) : Int) := by
  induction d with
  | zero =>
    intro i a hi ha
    obtain rfl : i = 16 := by omega
    have hp := P_lt hf hb
    have hp' : P f b < 2147483648 := hp
    have ha' : a < 2147483648 := ha
    refine Ev.step (f := fun k => (rabin_Push.f k (f : Int) (b : Int)).bind fun t => some (Go.bits .xor .u64 t (a : Int))) (fun k => ?_) (Ev.bind (f := fun _ t => some (Go.bits .xor .u64 t (a : Int))) (push_ev hf hb) ?_)
    · simp only [rabin_Roll.l0]
      rw [if_neg (by omega)]
    · rw [u64_xor_nat _ _ (by omega) (by omega)]
      exact Ev.now _
  | succ d ih =>
    intro i a hi ha
    have ha' : a < 2147483648 := ha
    have ew : wrap64 ((i : Int) + 1) = ((i + 1 : Nat) : Int) := by rw [w64 (by omega) (by omega)]; omega
    have e0 : IntKind.u64.wrap ((a : Int) * 256) = (((a <<< 8) ^^^ 0 : Nat) : Int) := by rw [wu (by omega) (by omega), ← shl8 (by decide : 0 < 256)]; simp
    have hm : Ev (fun k => rabin_Mod.f k (((a <<< 8) ^^^ 0 : Nat) : Int)) ((P a 0 : Nat) : Int) := by
      unfold P
      exact mod_ev (y := (a <<< 8) ^^^ 0) (Nat.lt_of_lt_of_le (shl8_lt ha (by decide : 0 < 256)) (by decide))
    have hpz : P a 0 < 2 ^ 31 := P_lt ha (by decide)
    generalize (a <<< 8) ^^^ 0 = z at e0 hm
    refine Ev.step (f := fun k => (rabin_Mod.f k (z : Int)).bind fun t => rabin_Roll.l0 k (f : Int) (b : Int) t ((i + 1 : Nat) : Int)) (fun k => ?_) (Ev.bind (f := fun k t => rabin_Roll.l0 k (f : Int) (b : Int) t ((i + 1 : Nat) : Int)) hm (ih (i + 1) (P a 0) (by omega) hpz))
    simp only [rabin_Roll.l0]
    rw [if_pos (by omega), e0, ew]
theorem roll_ev {f o b : Nat} (hf : f < 2 ^ 31) (ho : o < 256) (hb : b < 256) : Ev (fun k => rabin_Roll.f k (f : Int) (o : Int) (b : Int)) ((P f b ^^^ W o (List.replicate 16 0) : Nat) : Int) := by
  refine Ev.congr (fun k => ?_) (roll_loop f b hf hb 16 0 o rfl (by omega))
  unfold rabin_Roll.f
  rw [wu (by omega) (by omega)]
  rfl
end Go.Proofs.Ytjjbofbkpmabbaa.RabB
