/- CrcAdds: sums of three texts of one length, and of all three put together by exclusive or, go together. No condition besides the reader's own bound on lengths. -/
import Derived.Test.YtohhpobgmhoeoaaCrcC
import Derived.Test.YtohhpobgmhoeoaaHx0
import Derived.Test.YtohhpobgmhoeoaaHx3
namespace Go.Proofs.Ytohhpobgmhoeoaa.Pure
open Go.RowKit Go.Proofs.Ytohhpobgmhoeoaa.Fn Go.Proofs.YtohhpobgmhoeoaaW.PrintWords Go.Proofs.YtohhpobgmhoeoaaW.PrintLast Go.Proofs.Ytohhpobgmhoeoaa.U Go.Proofs.Ytohhpobgmhoeoaa.CrcA Go.Proofs.Ytohhpobgmhoeoaa.CrcB Go.Proofs.Ytohhpobgmhoeoaa.CrcC

theorem xor3_append (ax : List Nat) : ∀ (bs cs ax' bs' cs' : List Nat), bs.length = ax.length → cs.length = ax.length → xor3 (ax ++ ax') (bs ++ bs') (cs ++ cs') = xor3 ax bs cs ++ xor3 ax' bs' cs' := by
  induction ax with
  | nil =>
    intro bs cs ax' bs' cs' hb hc
    obtain rfl : bs = [] := by simpa using hb
    obtain rfl : cs = [] := by simpa using hc
    rfl
  | cons a ax ih =>
    intro bs cs ax' bs' cs' hb hc
    obtain ⟨b, bs, rfl⟩ := List.exists_cons_of_length_eq_add_one hb
    obtain ⟨c, cs, rfl⟩ := List.exists_cons_of_length_eq_add_one hc
    simp only [List.cons_append, xor3]
    rw [ih bs cs ax' bs' cs' (by simpa using hb) (by simpa using hc)]
theorem xor3_length (ax : List Nat) : ∀ (bs cs : List Nat), bs.length = ax.length → cs.length = ax.length → (xor3 ax bs cs).length = ax.length := by
  induction ax with
  | nil =>
    intro bs cs hb hc
    rfl
  | cons a ax ih =>
    intro bs cs hb hc
    obtain ⟨b, bs, rfl⟩ := List.exists_cons_of_length_eq_add_one hb
    obtain ⟨c, cs, rfl⟩ := List.exists_cons_of_length_eq_add_one hc
    simp only [xor3, List.length_cons]
    rw [ih bs cs (by simpa using hb) (by simpa using hc)]
theorem CrcAdds : palimpsestlaw03_CrcAdds.Pure := by
  intro l0 l1 l2 _ hl0 hw0 _ hl1 hw1 _ hl2 hw2
  obtain ⟨a, rfl, ha⟩ := bytes_of hw0
  obtain ⟨b, rfl, hb⟩ := bytes_of hw1
  obtain ⟨c, rfl, hc⟩ := bytes_of hw2
  simp only [ofN_length] at hl0 hl1 hl2
  obtain ⟨n, hn⟩ : ∃ n : Nat, n = min (min a.length b.length) c.length := ⟨_, rfl⟩
  have hmn : mn (mn ((ofN a).length : Int) ((ofN b).length : Int)) ((ofN c).length : Int) = (n : Int) := by
    simp only [ofN_length]
    unfold mn
    repeat' split
    all_goals omega
  have hbt : ∀ (d : List Nat) (m : Nat), (∀ x ∈ d, x < 256) → ∀ x ∈ d.take m, x < 256 := fun d m h x hx => h x (List.mem_of_mem_take hx)
  obtain ⟨K9, h9⟩ := heads_ev
  dsimp only at h9
  have loop : ∀ (d : Nat), d ≤ n → Ev (fun k => palimpsestlaw03_CrcAdds.l0 k (ofN a) (ofN b) (ofN c) (n : Int) (ofN (xor3 (a.take (n - d)) (b.take (n - d)) (c.take (n - d)))) ((n - d : Nat) : Int)) true := by
    intro d
    induction d with
    | zero =>
      intro _
      rw [Nat.sub_zero]
      have la : (a.take n).length = n := by rw [List.length_take]; omega
      have lb : (b.take n).length = n := by rw [List.length_take]; omega
      have lc : (c.take n).length = n := by rw [List.length_take]; omega
      have hx3 := xor3_lt _ _ _ (hbt a n ha) (hbt b n hb) (hbt c n hc)
      obtain ⟨K1, e1⟩ := sum_ev (xor3 (a.take n) (b.take n) (c.take n)) hx3 (by rw [xor3_length _ _ _ (by omega) (by omega)]; omega)
      obtain ⟨K2, e2⟩ := sum_ev (a.take n) (hbt a n ha) (by omega)
      obtain ⟨K3, e3⟩ := sum_ev (b.take n) (hbt b n hb) (by omega)
      obtain ⟨K4, e4⟩ := sum_ev (c.take n) (hbt c n hc) (by omega)
      have hF := F_xor3 (a.take n) (b.take n) (c.take n) 4294967295 4294967295 4294967295 (by omega) (by omega)
      have h3 : (4294967295 ^^^ 4294967295 ^^^ 4294967295 : Nat) = 4294967295 := by decide
      rw [h3] at hF
      have fa := F_lt (a.take n) (c := 4294967295) (by decide) (hbt a n ha)
      have fb := F_lt (b.take n) (c := 4294967295) (by decide) (hbt b n hb)
      have fc := F_lt (c.take n) (c := 4294967295) (by decide) (hbt c n hc)
      have xl : ∀ {x : Nat}, x < 4294967296 → 4294967295 ^^^ x < 4294967296 := fun h => Nat.xor_lt_two_pow (n := 32) (by decide) h
      have hfin : (4294967295 ^^^ F 4294967295 (xor3 (a.take n) (b.take n) (c.take n)) : Nat) = (4294967295 ^^^ F 4294967295 (a.take n)) ^^^ (4294967295 ^^^ F 4294967295 (b.take n)) ^^^ (4294967295 ^^^ F 4294967295 (c.take n)) := by
        rw [hF]
        have : ∀ m x y z : Nat, m ^^^ (x ^^^ y ^^^ z) = (m ^^^ x) ^^^ (m ^^^ y) ^^^ (m ^^^ z) := by
          intro m x y z
          have : (m ^^^ x) ^^^ (m ^^^ y) ^^^ (m ^^^ z) = (m ^^^ m) ^^^ (m ^^^ (x ^^^ y ^^^ z)) := by ac_rfl
          rw [this]; simp
        exact this _ _ _ _
      dsimp only at e1 e2 e3 e4
      refine ⟨K1 + K2 + K3 + K4 + K9 + 1, fun k hk => ?_⟩
      obtain ⟨k, rfl⟩ : ∃ m, k = m + 1 := ⟨k - 1, by omega⟩
      simp only [palimpsestlaw03_CrcAdds.l0]
      rw [if_neg (by omega), e1 _ (by omega)]
      simp only [Option.bind_some]
      rw [if_pos (by omega), if_pos (by rw [ofN_length]; omega), Int.toNat_natCast, ofN_take, ofN_take, ofN_take, e2 _ (by omega)]
      simp only [Option.bind_some]
      rw [if_pos (by rw [ofN_length]; omega), e3 _ (by omega)]
      simp only [Option.bind_some]
      rw [if_pos (by rw [ofN_length]; omega), e4 _ (by omega)]
      simp only [Option.bind_some]
      rw [u32_xor_nat _ _ (xl fa) (xl fb), u32_xor_nat _ _ (Nat.xor_lt_two_pow (n := 32) (xl fa) (xl fb)) (xl fc), ← hfin, if_pos rfl, h9 _ (by omega)]
      rfl
    | succ d ih =>
      intro hd
      have ih := ih (by omega)
      obtain ⟨m, hm⟩ : ∃ m, m = n - (d + 1) := ⟨_, rfl⟩
      have hm1 : n - d = m + 1 := by omega
      rw [hm1] at ih
      rw [← hm]
      refine Ev.step (fun k => ?_) ih
      have ra : rd (ofN a) (m : Int) = ((a.getD m 0 : Nat) : Int) := rd_ofN _ _
      have rb : rd (ofN b) (m : Int) = ((b.getD m 0 : Nat) : Int) := rd_ofN _ _
      have rc : rd (ofN c) (m : Int) = ((c.getD m 0 : Nat) : Int) := rd_ofN _ _
      have g : ∀ (d : List Nat), m < d.length → (∀ x ∈ d, x < 256) → d.getD m 0 < 256 := fun d h hd => by
        rw [List.getD_eq_getElem?_getD, List.getElem?_eq_getElem h]
        exact hd _ (List.getElem_mem h)
      have ga := g a (by omega) ha
      have gb := g b (by omega) hb
      have gc := g c (by omega) hc
      have t : ∀ (d : List Nat), m < d.length → d.take (m + 1) = d.take m ++ [d.getD m 0] := fun d h => by
        rw [List.take_succ_eq_append_getElem h, List.getD_eq_getElem?_getD, List.getElem?_eq_getElem h]; rfl
      simp only [palimpsestlaw03_CrcAdds.l0]
      have hlx : (xor3 (a.take m) (b.take m) (c.take m)).length = m := by
        rw [xor3_length _ _ _ (by simp; omega) (by simp; omega)]; simp; omega
      rw [if_pos (by omega), if_pos (by omega), if_pos (by rw [ofN_length]; omega), if_pos (by rw [ofN_length]; omega), if_pos (by rw [ofN_length]; omega), if_pos (by rw [ofN_length, hlx]; omega), ra, rb, rc,
        u8_xor_nat _ _ ga gb, u8_xor_nat _ _ (Nat.xor_lt_two_pow (n := 8) ga gb) gc, w64 (by omega) (by omega), t a (by omega), t b (by omega), t c (by omega), xor3_append _ _ _ _ _ _ (by simp; omega) (by simp; omega)]
      simp [xor3]
  refine Ev.rounds (Ev.congr (fun k => ?_) (loop n (Nat.le_refl _)))
  unfold palimpsestlaw03_CrcAdds.f
  rw [hmn]
  simp [xor3]
end Go.Proofs.Ytohhpobgmhoeoaa.Pure
