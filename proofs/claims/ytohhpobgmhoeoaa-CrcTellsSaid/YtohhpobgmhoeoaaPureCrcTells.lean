/- CrcTells: bytes with their sum are right, and are not with a burst of at most 32 bits turned: at every bytes, every place and every row of 32 bits. No condition besides the reader's own bound on lengths. -/
import Derived.Test.YtohhpobgmhoeoaaCrcC
import Derived.Test.YtohhpobgmhoeoaaHx0
import Derived.Test.YtohhpobgmhoeoaaHx6
namespace Go.Proofs.Ytohhpobgmhoeoaa.Pure
open Go.RowKit Go.Proofs.Ytohhpobgmhoeoaa.Fn Go.Proofs.YtohhpobgmhoeoaaW.PrintWords Go.Proofs.YtohhpobgmhoeoaaW.PrintLast Go.Proofs.Ytohhpobgmhoeoaa.U Go.Proofs.Ytohhpobgmhoeoaa.CrcA Go.Proofs.Ytohhpobgmhoeoaa.CrcB Go.Proofs.Ytohhpobgmhoeoaa.CrcC

/-- What the loop that turns bits keeps. -/
def Turned (x : List Nat) (from_ i : Nat) (y : List Nat) : Prop := y.length = x.length ∧ (∀ z ∈ y, z < 256) ∧ ∃ w, w < 2 ^ i ∧ le y = le x ^^^ (w <<< from_)
theorem turned_same {x y : List Nat} {from_ i : Nat} (h : Turned x from_ i y) : Turned x from_ (i + 1) y := by
  obtain ⟨h1, h2, w, hw, he⟩ := h
  exact ⟨h1, h2, w, by rw [Nat.pow_succ]; omega, he⟩
theorem turned_bit {x y : List Nat} {from_ i : Nat} (h : Turned x from_ i y) (hin : from_ + i < 8 * x.length) :
    Turned x from_ (i + 1) (y.set ((from_ + i) / 8) (y.getD ((from_ + i) / 8) 0 ^^^ 2 ^ ((from_ + i) % 8))) := by
  obtain ⟨h1, h2, w, hw, he⟩ := h
  refine ⟨by simp [h1], ?_, w ^^^ 2 ^ i, ?_, ?_⟩
  · intro z hz
    rcases List.mem_or_eq_of_mem_set hz with hz | rfl
    · exact h2 z hz
    · have hp : 2 ^ ((from_ + i) % 8) < 2 ^ 8 := Nat.pow_lt_pow_right (by decide) (by omega)
      have hg : y.getD ((from_ + i) / 8) 0 < 2 ^ 8 := by
        rw [List.getD_eq_getElem?_getD, List.getElem?_eq_getElem (by omega)]
        exact h2 _ (List.getElem_mem _)
      exact Nat.xor_lt_two_pow hg hp
  · exact Nat.xor_lt_two_pow (Nat.lt_of_lt_of_le hw (Nat.pow_le_pow_right (by decide) (by omega))) (Nat.pow_lt_pow_right (by decide) (by omega))
  · rw [le_set y _ _ (by omega), he, Nat.shiftLeft_xor_distrib, Nat.xor_assoc]
    congr 2
    rw [Nat.shiftLeft_eq, Nat.shiftLeft_eq, ← Nat.pow_add, ← Nat.pow_add]
    congr 1
    omega
theorem CrcTells : palimpsestlaw03_CrcTells.Pure := by
  intro l a bits _ hl hw ha hb
  obtain ⟨xs, rfl, hx⟩ := bytes_of hw
  rw [ofN_length] at hl
  obtain ⟨bs, rfl⟩ := Int.eq_ofNat_of_zero_le (u32_range hb).1
  have hbs := (u32_range hb).2
  have har := i64_range ha
  obtain ⟨K9, h9⟩ := heads_ev
  obtain ⟨x, hxe⟩ : ∃ x, x = CrcA.bytes xs := ⟨_, rfl⟩
  have hxl : x.length = xs.length + 4 := by rw [hxe, bytes_length]
  have hxb : ∀ z ∈ x, z < 256 := by rw [hxe]; exact bytes_lt hx
  have hxr : right x = true := by rw [hxe]; exact right_bytes
  obtain ⟨K1, e1⟩ := bytes_ev xs hx (by omega)
  obtain ⟨K2, e2⟩ := right_ev x hxb (by omega)
  rw [← hxe] at e1
  rw [hxr] at e2
  dsimp only at h9 e1 e2
  have w8 : wrap64 (8 * ((ofN x).length : Int)) = 8 * (x.length : Int) := by rw [ofN_length, w64 (by omega) (by omega)]
  -- the part behind the two tests
  have main : Ev (fun k => palimpsestlaw03_CrcTells.j0 k a (bs : Int) (ofN x) false) true := by
    by_cases h0 : a < 0
    · refine ⟨K9 + 2, fun k hk => ?_⟩
      obtain ⟨k, rfl⟩ : ∃ m, k = m + 2 := ⟨k - 2, by omega⟩
      simp only [palimpsestlaw03_CrcTells.j0]
      rw [if_neg (by decide), if_pos h0]
      simp only [palimpsestlaw03_CrcTells.j1]
      rw [if_pos trivial, h9 _ (by omega)]
      rfl
    by_cases h1 : 8 * (x.length : Int) ≤ a
    · refine ⟨K9 + 2, fun k hk => ?_⟩
      obtain ⟨k, rfl⟩ : ∃ m, k = m + 2 := ⟨k - 2, by omega⟩
      simp only [palimpsestlaw03_CrcTells.j0]
      rw [if_neg (by decide), if_neg h0, w8]
      simp only [palimpsestlaw03_CrcTells.j1]
      rw [if_pos (by simpa using h1), h9 _ (by omega)]
      rfl
    obtain ⟨n, rfl⟩ := Int.eq_ofNat_of_zero_le (by omega : 0 ≤ a)
    have last : ∀ (y : List Nat) (i : Nat) (b : Bool), b = false → i ≤ 32 → Turned x n i y → Ev (fun k => palimpsestlaw03_CrcTells.j3 k (n : Int) (bs : Int) (ofN x) (ofN y) (i : Int) b) true := by
      intro y i b hb0 hi ht
      subst hb0
      obtain ⟨hyl, hyb, w, hw, he⟩ := ht
      have hr := right_burst hyl (by omega) hxb hyb (by omega : n < 8 * x.length) (Nat.lt_of_lt_of_le hw (Nat.pow_le_pow_right (n := 2) (by decide) hi)) he hxr
      obtain ⟨K3, e3⟩ := right_ev y hyb (by omega)
      dsimp only at e3
      refine ⟨K3 + K9 + 1, fun k hk => ?_⟩
      obtain ⟨k, rfl⟩ : ∃ m, k = m + 1 := ⟨k - 1, by omega⟩
      simp only [palimpsestlaw03_CrcTells.j3]
      rw [if_neg (by decide), e3 _ (by omega), hr]
      unfold palimpsestref02_Same.f
      rw [str_eq hxb hyb, h9 _ (by omega)]
      simp
    have loop : ∀ (d i : Nat) (y : List Nat), i + d = 32 → Turned x n i y → Ev (fun k => palimpsestlaw03_CrcTells.l0 k (n : Int) (bs : Int) (ofN x) (ofN y) (i : Int)) true := by
      intro d
      induction d with
      | zero =>
        intro i y hi ht
        refine Ev.step (fun k => ?_) (last y i false rfl (by omega) ht)
        simp only [palimpsestlaw03_CrcTells.l0]
        rw [if_neg (by omega)]
      | succ d ih =>
        intro i y hi ht
        have hyl := ht.1
        have hyb := ht.2.1
        have c1 : (i : Int) < 32 := by omega
        have hn : (0 : Int) ≤ (n : Int) := Int.natCast_nonneg _
        by_cases hin : n + i < 8 * x.length
        · have hd : decide (((n + i : Nat) : Int) < 8 * (x.length : Int)) = true := decide_eq_true (by omega)
          have f0 : i + 1 + d = 32 := by omega
          have f1 : (n + i) / 8 < (ofN y).length := by rw [ofN_length, hyl]; omega
          have f2 : i ≤ 32 := by omega
          have hgy : y.getD ((n + i) / 8) 0 < 256 := by
            rw [List.getD_eq_getElem?_getD, List.getElem?_eq_getElem (by omega)]
            exact hyb _ (List.getElem_mem _)
          have wy : wrap64 (8 * ((ofN y).length : Int)) = 8 * (x.length : Int) := by rw [ofN_length, hyl, w64 (by omega) (by omega)]
          have wa : wrap64 ((n : Int) + (i : Int)) = ((n + i : Nat) : Int) := by rw [w64 (by omega) (by omega)]; omega
          have hstep : Ev (fun k => palimpsestlaw03_CrcTells.j3 k (n : Int) (bs : Int) (ofN x) (ofN y) (i : Int) true) true := by
            have wi : IntKind.u64.wrap (i : Int) = (i : Int) := by clear wa wy; rw [IntKind.wrap_u64]; omega
            obtain ⟨v, ws⟩ : ∃ v : Nat, shr .u32 (bs : Int) (i : Int) = (v : Int) := ⟨_, shr_nat .u32 bs i _ rfl (by simp only [IntKind.bits]; exact f2)⟩
            have wn : wrap64 ((i : Int) + 1) = ((i + 1 : Nat) : Int) := by clear wa wy wi ws; rw [w64 (by omega) (by omega)]; omega
            have wm : Int.tmod (v : Int) 2 = ((v % 2 : Nat) : Int) := by clear wa wy wi ws wn; rw [Int.tmod_eq_emod_of_nonneg (Int.natCast_nonneg _)]; omega
            by_cases hodd : v % 2 = 1
            · refine Ev.step (fun k => ?_) (ih (i + 1) _ f0 (turned_bit ht hin))
              have wd : wrap64 (Int.tdiv ((n + i : Nat) : Int) 8) = (((n + i) / 8 : Nat) : Int) := by
                clear wa wy wi ws wn wm
                rw [Int.tdiv_eq_ediv_of_nonneg (by omega), w64 (by omega) (by omega)]; omega
              have wt : IntKind.u64.wrap (Int.tmod ((n + i : Nat) : Int) 8) = (((n + i) % 8 : Nat) : Int) := by
                clear wa wy wi ws wn wm wd
                rw [Int.tmod_eq_emod_of_nonneg (by omega), IntKind.wrap_u64]; omega
              have hp : 2 ^ ((n + i) % 8) < 2 ^ 8 := Nat.pow_lt_pow_right (by decide) (Nat.mod_lt _ (by decide))
              have hsh : shl .u8 1 (((n + i) % 8 : Nat) : Int) = ((2 ^ ((n + i) % 8) : Nat) : Int) := by
                have h8 : (n + i) % 8 < 8 := Nat.mod_lt _ (by decide)
                generalize (n + i) % 8 = m at h8
                have : m = 0 ∨ m = 1 ∨ m = 2 ∨ m = 3 ∨ m = 4 ∨ m = 5 ∨ m = 6 ∨ m = 7 := by omega
                rcases this with rfl | rfl | rfl | rfl | rfl | rfl | rfl | rfl <;> decide
              simp only [palimpsestlaw03_CrcTells.j3]
              have hv1 : ((v % 2 : Nat) : Int) = 1 := by rw [hodd]; rfl
              have hi0 : (0 : Int) ≤ (i : Int) := Int.natCast_nonneg _
              have hd0 : (0 : Int) ≤ (((n + i) / 8 : Nat) : Int) := Int.natCast_nonneg _
              have hd1 : (((n + i) / 8 : Nat) : Int) < ((ofN y).length : Int) := Int.ofNat_lt.2 f1
              have hm0 : (0 : Int) ≤ (((n + i) % 8 : Nat) : Int) := Int.natCast_nonneg _
              rw [if_pos trivial, wi, if_pos hi0, ws, wm, if_pos hv1, wa, wd, if_pos hd0, if_pos hd1, wt, if_pos hm0, hsh, rd_ofN, Int.toNat_natCast, u8_xor_nat _ _ hgy hp, ofN_set, wn]
            · refine Ev.step (fun k => ?_) (ih (i + 1) y f0 (turned_same ht))
              simp only [palimpsestlaw03_CrcTells.j3]
              have hv1 : ¬ ((v % 2 : Nat) : Int) = 1 := fun h => hodd (Int.ofNat.inj h)
              have hi0 : (0 : Int) ≤ (i : Int) := Int.natCast_nonneg _
              rw [if_pos trivial, wi, if_pos hi0, ws, wm, if_neg hv1, wn]
          refine Ev.step (fun k => ?_) hstep
          simp only [palimpsestlaw03_CrcTells.l0]
          rw [if_pos c1, wa, wy, hd]
        · have hd : decide (((n + i : Nat) : Int) < 8 * (x.length : Int)) = false := decide_eq_false (by omega)
          have f2 : i ≤ 32 := by omega
          have wy : wrap64 (8 * ((ofN y).length : Int)) = 8 * (x.length : Int) := by rw [ofN_length, hyl, w64 (by omega) (by omega)]
          have wa : wrap64 ((n : Int) + (i : Int)) = ((n + i : Nat) : Int) := by rw [w64 (by omega) (by omega)]; omega
          refine Ev.step (fun k => ?_) (last y i false rfl f2 ht)
          simp only [palimpsestlaw03_CrcTells.l0]
          rw [if_pos c1, wa, wy, hd]
    have hstart : Ev (fun k => palimpsestlaw03_CrcTells.l0 k (n : Int) (bs : Int) (ofN x) (ofN x) 0) true := loop 32 0 x rfl ⟨rfl, hxb, 0, by decide, by simp⟩
    obtain ⟨K5, e5⟩ := hstart
    dsimp only at e5
    refine ⟨K5 + 2, fun k hk => ?_⟩
    obtain ⟨k, rfl⟩ : ∃ m, k = m + 2 := ⟨k - 2, by omega⟩
    simp only [palimpsestlaw03_CrcTells.j0]
    rw [if_neg (by decide), if_neg h0, w8]
    simp only [palimpsestlaw03_CrcTells.j1]
    rw [if_neg (by simpa using h1)]
    simp only [Option.bind_some, List.length_nil, List.nil_append]
    rw [if_pos (by rw [ofN_length]; omega)]
    have h := e5 k (by omega)
    rw [h]
  obtain ⟨K4, e4⟩ := main
  dsimp only at e4
  refine ⟨K1 + K2 + K4, ?_⟩
  unfold palimpsestlaw03_CrcTells.f
  have hc : ((ofN x).length : Int) = wrap64 (((ofN xs).length : Int) + 4) := by
    rw [ofN_length, ofN_length, w64 (by omega) (by omega)]
    omega
  rw [e1 (K1 + K2 + K4) (by omega), Option.bind_some, if_pos hc, e2 (K1 + K2 + K4) (by omega), Option.bind_some, Bool.not_true]
  have h := e4 (K1 + K2 + K4) (by omega)
  rw [h]
end Go.Proofs.Ytohhpobgmhoeoaa.Pure
