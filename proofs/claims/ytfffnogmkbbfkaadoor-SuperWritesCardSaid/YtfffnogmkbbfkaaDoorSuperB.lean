import Derived.Test.YtfffnogmkbbfkaaDoorSuperA
import Derived.Test.YtfffnogmkbbfkaaDoorCrcS
import Derived.Test.YtfffnogmkbbfkaaDoorHx0
import Derived.Test.YtfffnogmkbbfkaaDoorHx1
import Derived.Test.YtfffnogmkbbfkaaDoorHx2
import Derived.Test.YtfffnogmkbbfkaaDoorHx3
import Derived.Test.YtfffnogmkbbfkaaDoorHx4
namespace Go.Proofs.YtfffnogmkbbfkaaDoor.SupB
open Go.RowKit Go.Proofs.YtfffnogmkbbfkaaDoor.Fn Go.Proofs.YtfffnogmkbbfkaaDoorW.PrintWords Go.Proofs.YtfffnogmkbbfkaaDoorW.PrintLast Go.Proofs.YtfffnogmkbbfkaaDoor.U Go.Proofs.YtfffnogmkbbfkaaDoor.CrcA Go.Proofs.YtfffnogmkbbfkaaDoor.Pure Go.Proofs.YtfffnogmkbbfkaaDoor.SupA
set_option linter.unusedVariables false
set_option linter.unusedSimpArgs false
theorem wi (i n : Nat) (h : i < n) (hn : n ≤ 1152921504606846976) : wrap64 ((i : Int) + 1) = ((i + 1 : Nat) : Int) := by rw [w64 (by omega) (by omega)]; omega
theorem w8 (i : Nat) (h : i < 8) : wrap64 (8 * (i : Int)) = ((8 * i : Nat) : Int) := by rw [w64 (by omega) (by omega)]; omega
theorem bytes8_take (x i : Nat) (hi : i < 8) : (bytes8 x).take (i + 1) = (bytes8 x).take i ++ [x / 2 ^ (8 * i) % 256] := by
  have hl : i < (bytes8 x).length := by rw [bytes8_length]; exact hi
  rw [List.take_succ_eq_append_getElem hl]
  have := bytes8_get x i hi
  rw [List.getElem?_eq_getElem hl] at this
  rw [Option.some.inj this]
theorem number_loop (x : Nat) (d : Nat) : ∀ i : Nat, i + d = 8 → Ev (fun k => super_number.l0 k (x : Int) (ofN ((bytes8 x).take i)) (i : Int)) (ofN (bytes8 x)) := by
  induction d with
  | zero =>
    intro i hi
    obtain rfl : i = 8 := by omega
    refine Ev.step (f := fun _ => some (ofN (bytes8 x))) (fun k => ?_) (Ev.now _)
    simp only [super_number.l0]
    rw [if_neg (by omega), List.take_of_length_le (by rw [bytes8_length]; omega)]
  | succ d ih =>
    intro i hi
    refine Ev.step (fun k => ?_) (ih (i + 1) (by omega))
    simp only [super_number.l0]
    rw [if_pos (by omega), w8 i (by omega), if_pos (by omega), if_pos (by rw [ofN_length, List.length_take, bytes8_length]; omega), shr_nat .u64 x (8 * i) _ rfl (by simp [IntKind.bits]; omega), wi i 8 (by omega) (by omega), bytes8_take x i (by omega), ofN_append]
    congr 1
theorem number_ev (x : Nat) : Ev (fun k => super_number.f k (x : Int)) (ofN (bytes8 x)) := by
  refine Ev.congr (fun k => ?_) (number_loop x 8 0 rfl)
  unfold super_number.f
  rfl
theorem read_loop (l : List Nat) (hb : ∀ x ∈ l, x < 256) (h8 : 8 ≤ l.length) (d : Nat) : ∀ i : Nat, i + d = 8 → Ev (fun k => super_read.l0 k (ofN l) ((le (l.take i) : Nat) : Int) (i : Int)) ((le (l.take 8) : Nat) : Int) := by
  induction d with
  | zero =>
    intro i hi
    obtain rfl : i = 8 := by omega
    refine Ev.step (f := fun _ => some ((le (l.take 8) : Nat) : Int)) (fun k => ?_) (Ev.now _)
    simp only [super_read.l0]
    rw [if_neg (by omega)]
  | succ d ih =>
    intro i hi
    have hlt : i < l.length := by omega
    have hx := hb _ (List.getElem_mem hlt)
    have hle : le (l.take i) < 2 ^ (8 * i) := by
      have := le_lt (l.take i) (fun x hx => hb x (List.mem_of_mem_take hx))
      rwa [List.length_take, Nat.min_eq_left (by omega)] at this
    have hp : 2 ^ (8 * i) ≤ 2 ^ 56 := Nat.pow_le_pow_right (by decide) (by omega)
    have e56 : (2 : Nat) ^ 56 = 72057594037927936 := by decide
    have hm : l[i] * 2 ^ (8 * i) ≤ 255 * 2 ^ 56 := Nat.mul_le_mul (by omega) hp
    have er : rd (ofN l) (i : Int) = ((l[i] : Nat) : Int) := by
      rw [rd_ofN, Int.toNat_natCast, List.getD_eq_getElem?_getD, List.getElem?_eq_getElem hlt]; rfl
    have hs : shl .u64 (IntKind.u64.wrap ((l[i] : Nat) : Int)) ((8 * i : Nat) : Int) = ((l[i] * 2 ^ (8 * i) : Nat) : Int) := by
      rw [show IntKind.u64.wrap ((l[i] : Nat) : Int) = ((l[i] : Nat) : Int) from by rw [IntKind.wrap_u64]; omega]
      unfold shl
      have em : min (((8 * i : Nat) : Int).toNat) (IntKind.u64.bits) = 8 * i := by
        rw [Int.toNat_natCast]; show min (8 * i) 64 = 8 * i; omega
      rw [em]
      have ep : ((l[i] : Nat) : Int) * 2 ^ (8 * i) = ((l[i] * 2 ^ (8 * i) : Nat) : Int) := by simp
      rw [ep, IntKind.wrap_u64]
      omega
    have hor : Go.bits .or .u64 ((le (l.take i) : Nat) : Int) ((l[i] * 2 ^ (8 * i) : Nat) : Int) = ((le (l.take (i + 1)) : Nat) : Int) := by
      rw [u64_or_nat _ _ (by omega) (by omega), le_take_succ l i hlt hb]
      congr 1
      rw [Nat.or_comm, Nat.mul_comm, ← Nat.two_pow_add_eq_or_of_lt hle, Nat.add_comm]
    refine Ev.step (fun k => ?_) (ih (i + 1) (by omega))
    simp only [super_read.l0]
    rw [if_pos (by omega), if_pos (by omega), if_pos (by rw [ofN_length]; omega), w8 i (by omega), if_pos (by omega), er, hs, hor, wi i 8 (by omega) (by omega)]
theorem read_ev (l : List Nat) (hb : ∀ x ∈ l, x < 256) (h8 : 8 ≤ l.length) : Ev (fun k => super_read.f k (ofN l)) ((le (l.take 8) : Nat) : Int) := by
  refine Ev.congr (fun k => ?_) (read_loop l hb h8 8 0 rfl)
  unfold super_read.f
  rfl
def tailB (g : Int) (s : ByteArray) : Bool := decide (1 ≤ g) && (decide (g ≤ 4611686018427387903) && isKey s)
theorem right_loop (g : Int) (s : ByteArray) (ps : List Int) (hl : ps.length < 1152921504606846976) (d : Nat) : ∀ (i : Nat) (m : Int), i + d = ps.length → Ev (fun k => super_right.l0 k m ps (ps.length : Int) (i : Int) g s ps) (rises m (ps.drop i) && tailB g s) := by
  induction d with
  | zero =>
    intro i m hi
    obtain rfl : i = ps.length := by omega
    rw [List.drop_length]
    refine Ev.step (f := fun _ => some (rises m [] && tailB g s)) (fun k => ?_) (Ev.now _)
    simp only [super_right.l0]
    rw [if_neg (by omega)]
    unfold tailB rises
    by_cases h1 : 1 ≤ g
    · rw [if_pos h1, decide_eq_true h1]
      by_cases h2 : g ≤ 4611686018427387903
      · rw [if_pos h2, decide_eq_true h2, keyCheck_all]; rfl
      · rw [if_neg h2, decide_eq_false h2]; rfl
    · rw [if_neg h1, decide_eq_false h1]; rfl
  | succ d ih =>
    intro i m hi
    have hlt : i < ps.length := by omega
    have er : rd ps (i : Int) = ps[i] := by unfold rd; rw [Int.toNat_natCast, List.getD_eq_getElem?_getD, List.getElem?_eq_getElem hlt]; rfl
    rw [List.drop_eq_getElem_cons hlt]
    by_cases h1 : ps[i] ≤ m
    · refine Ev.step (f := fun _ => some false) (fun k => ?_) ?_
      · simp only [super_right.l0]
        rw [if_pos (by omega), if_pos (by omega), if_pos (by omega), er, if_pos h1]
      · have : rises m (ps[i] :: ps.drop (i + 1)) = false := by simp only [rises]; rw [decide_eq_false (by omega)]; rfl
        rw [this]; exact Ev.now _
    · by_cases h2 : 62 ≤ ps[i]
      · refine Ev.step (f := fun _ => some false) (fun k => ?_) ?_
        · simp only [super_right.l0]
          rw [if_pos (by omega), if_pos (by omega), if_pos (by omega), er, if_neg h1, if_pos h2]
        · have : rises m (ps[i] :: ps.drop (i + 1)) = false := by simp only [rises]; rw [decide_eq_false (show ¬ ps[i] < 62 by omega), Bool.and_false]; rfl
          rw [this]; exact Ev.now _
      · refine Ev.step (fun k => ?_) (?_ : Ev (fun k => super_right.l0 k ps[i] ps (ps.length : Int) ((i + 1 : Nat) : Int) g s ps) _)
        · simp only [super_right.l0]
          rw [if_pos (by omega), if_pos (by omega), if_pos (by omega), er, if_neg h1, if_neg h2, wi i ps.length hlt (by omega)]
        · have : rises m (ps[i] :: ps.drop (i + 1)) = rises ps[i] (ps.drop (i + 1)) := by simp only [rises]; rw [decide_eq_true (show m < ps[i] by omega), decide_eq_true (show ps[i] < 62 by omega)]; rfl
          rw [this]
          exact ih (i + 1) ps[i] (by omega)
theorem right_ev (g : Int) (s : ByteArray) (ps : List Int) (hl : ps.length < 1152921504606846976) : Ev (fun k => super_right.f k g s ps) (okS g s ps) := by
  refine Ev.congr (fun k => ?_) (right_loop g s ps hl ps.length 0 (-1) (by omega))
  unfold super_right.f
  rfl
theorem flat_take (ls : List (List Int)) (i : Nat) (hi : i < ls.length) : (ls.take (i + 1)).flatten = (ls.take i).flatten ++ ls[i] := by
  rw [List.take_succ_eq_append_getElem hi, List.flatten_append]
  simp
theorem flat_take_le (ls : List (List Int)) (i : Nat) : (ls.take i).flatten.length ≤ ls.flatten.length := by
  conv => rhs; rw [← List.take_append_drop i ls]
  rw [List.flatten_append, List.length_append]
  omega
theorem rd1 (ls : List (List Int)) (i : Nat) (hi : i < ls.length) : rd_L1 ls (i : Int) = ls[i] := by
  unfold rd_L1; rw [Int.toNat_natCast, List.getD_eq_getElem?_getD, List.getElem?_eq_getElem hi]; rfl
theorem concat_l1 (ls : List (List Int)) (ht : ls.flatten.length < 1099511627776) (hn : ls.length < 1099511627776) (d : Nat) : ∀ i : Nat, i + d = ls.length → Ev (fun k => slices_Concat_byte_byte.l1 k (ls.take i).flatten ls (ls.length : Int) (i : Int)) ls.flatten := by
  induction d with
  | zero =>
    intro i hi
    obtain rfl : i = ls.length := by omega
    refine Ev.step (f := fun _ => some ls.flatten) (fun k => ?_) (Ev.now _)
    simp only [slices_Concat_byte_byte.l1]
    rw [if_neg (by omega), List.take_length]
  | succ d ih =>
    intro i hi
    have hlt : i < ls.length := by omega
    have h1 := flat_take_le ls (i + 1)
    rw [flat_take ls i hlt, List.length_append] at h1
    refine Ev.step (fun k => ?_) (ih (i + 1) (by omega))
    simp only [slices_Concat_byte_byte.l1]
    rw [if_pos (by omega), if_pos (by omega), if_pos (by omega), rd1 ls i hlt, if_pos (by omega), wi i ls.length hlt (by omega), flat_take ls i hlt]
theorem concat_l0 (ls : List (List Int)) (ht : ls.flatten.length < 1099511627776) (hn : ls.length < 1099511627776) (d : Nat) : ∀ i : Nat, i + d = ls.length → Ev (fun k => slices_Concat_byte_byte.l0 k ls (((ls.take i).flatten.length : Nat) : Int) ls (ls.length : Int) (i : Int)) ls.flatten := by
  induction d with
  | zero =>
    intro i hi
    obtain rfl : i = ls.length := by omega
    refine Ev.step (fun k => ?_) (concat_l1 ls ht hn ls.length 0 (by omega))
    simp only [slices_Concat_byte_byte.l0]
    rw [if_neg (by omega), List.take_length]
    unfold growNil
    rw [if_pos (by omega), if_pos (by omega), Option.bind_some]
    rfl
  | succ d ih =>
    intro i hi
    have hlt : i < ls.length := by omega
    have h1 := flat_take_le ls (i + 1)
    have h2 := flat_take ls i hlt
    have h3 : (ls.take (i + 1)).flatten.length = (ls.take i).flatten.length + ls[i].length := by rw [h2, List.length_append]
    have e1 : wrap64 ((((ls.take i).flatten.length : Nat) : Int) + (ls[i].length : Int)) = (((ls.take (i + 1)).flatten.length : Nat) : Int) := by rw [w64 (by omega) (by omega), h3]; omega
    refine Ev.step (fun k => ?_) (ih (i + 1) (by omega))
    simp only [slices_Concat_byte_byte.l0]
    rw [if_pos (by omega), if_pos (by omega), if_pos (by omega), rd1 ls i hlt, e1, if_neg (by omega), wi i ls.length hlt (by omega)]
theorem concat_ev (ls : List (List Int)) (ht : ls.flatten.length < 1099511627776) (hn : ls.length < 1099511627776) : Ev (fun k => slices_Concat_byte_byte.f k ls) ls.flatten := by
  refine Ev.congr (fun k => ?_) (concat_l0 ls ht hn ls.length 0 (by omega))
  unfold slices_Concat_byte_byte.f
  rfl
def putR (g : Int) (s : ByteArray) (ps : List Int) : List Int × Int := if okS g s ps = true then (ofN (putV g s ps), 0) else ([], 110)
theorem put_end (g : Int) (s : ByteArray) (ps : List Int) (h : okS g s ps = true) : Ev (fun k => (super_number.f k (IntKind.u64.wrap g)).bind fun t149 => ((super_number.f k ((mapOf ps : Nat) : Int)).bind fun t152 => ((slices_Concat_byte_byte.f k [(([80, 76, 77, 80] : List Int)), t149, keyRow s, t152]).bind fun t155 => ((crc_Bytes.f k t155).bind fun t158 => (if 0 ≤ (wrap64 (256 - (t158.length : Int))) then (if t158.length + (wrap64 (256 - (t158.length : Int)) : Int).toNat < 140737488355328 then (some ((t158 ++ List.replicate (wrap64 (256 - (t158.length : Int)) : Int).toNat 0), (0 : Int))) else (none)) else (none)))))) (ofN (putV g s ps), (0 : Int)) := by
  obtain ⟨h1, h2, h3, h4⟩ := okS_parts h
  obtain ⟨gn, rfl⟩ := Int.eq_ofNat_of_zero_le (show 0 ≤ g by omega)
  have hw : IntKind.u64.wrap (gn : Int) = (gn : Int) := by rw [IntKind.wrap_u64]; omega
  have e1 := number_ev gn
  have e2 := number_ev (mapOf ps)
  have hflat : ([([80, 76, 77, 80] : List Int), ofN (bytes8 gn), keyRow s, ofN (bytes8 (mapOf ps))] : List (List Int)).flatten = ofN (bodyV (gn : Int) s ps) := by
    unfold bodyV
    rw [ofN_append, ofN_append, ofN_append, keyN_of h4]
    simp [ofN]
  have e3 := concat_ev [([80, 76, 77, 80] : List Int), ofN (bytes8 gn), keyRow s, ofN (bytes8 (mapOf ps))] (by rw [hflat, ofN_length, bodyV_length]; decide) (by simp)
  rw [hflat] at e3
  have e4 := CrcB.bytes_ev (bodyV (gn : Int) s ps) (bodyV_lt h4) (by rw [bodyV_length]; decide)
  have hlen : (ofN (CrcA.bytes (bodyV (gn : Int) s ps))).length = 56 := by rw [ofN_length, bytes_length, bodyV_length]
  rw [hw]
  refine Ev.bind e1 ?_
  refine Ev.bind e2 ?_
  refine Ev.bind e3 ?_
  refine Ev.bind e4 ?_
  refine Ev.congr (fun k => ?_) (Ev.now _)
  rw [hlen, show wrap64 (256 - ((56 : Nat) : Int)) = 200 from w64 (by omega) (by omega), if_pos (by omega), if_pos (by omega)]
  unfold putV
  have hz : ofN (List.replicate 200 0) = List.replicate 200 (0 : Int) := by
    unfold ofN
    rw [List.map_replicate]
    exact congrArg (List.replicate 200) rfl
  rw [ofN_append, show (200 : Int).toNat = 200 from rfl, hz]
theorem mapOf_snoc (M : Nat) (p : Int) (ps : List Int) : M ||| mapOf (p :: ps) = (M ||| 2 ^ p.toNat) ||| mapOf ps := by
  rw [mapOf, Nat.or_assoc]
theorem put_loop (g : Int) (s : ByteArray) (ps : List Int) (h : okS g s ps = true) (hl : ps.length < 1152921504606846976) (d : Nat) : ∀ (i M : Nat), i + d = ps.length → M < 2 ^ 62 → M ||| mapOf (ps.drop i) = mapOf ps →
    Ev (fun k => super_Put.l0 k (keyRow s) (M : Int) ps (ps.length : Int) (i : Int) g s ps) (ofN (putV g s ps), (0 : Int)) := by
  have hr := rises_mem ps _ (okS_parts h).1
  induction d with
  | zero =>
    intro i M hi hM hm
    obtain rfl : i = ps.length := by omega
    rw [List.drop_length, mapOf, Nat.or_zero] at hm
    subst hm
    refine Ev.step (fun k => ?_) (put_end g s ps h)
    simp only [super_Put.l0]
    rw [if_neg (by omega)]
  | succ d ih =>
    intro i M hi hM hm
    have hlt : i < ps.length := by omega
    have hp := hr _ (List.getElem_mem hlt)
    have er : rd ps (i : Int) = ps[i] := by unfold rd; rw [Int.toNat_natCast, List.getD_eq_getElem?_getD, List.getElem?_eq_getElem hlt]; rfl
    rw [List.drop_eq_getElem_cons hlt, mapOf_snoc] at hm
    have h2 : 2 ^ ps[i].toNat < 2 ^ 62 := Nat.pow_lt_pow_right (by decide) (by omega)
    have e62 : (2 : Nat) ^ 62 = 4611686018427387904 := by decide
    have hs : shl .u64 1 ps[i] = ((2 ^ ps[i].toNat : Nat) : Int) := by
      unfold shl
      have em : min ps[i].toNat (IntKind.u64.bits) = ps[i].toNat := by show min ps[i].toNat 64 = _; omega
      rw [em, Int.one_mul, show ((2 : Int) ^ ps[i].toNat) = ((2 ^ ps[i].toNat : Nat) : Int) from by simp, IntKind.wrap_u64]
      rw [e62] at h2
      generalize (2 : Nat) ^ ps[i].toNat = q at h2 ⊢
      omega
    have hor : Go.bits .or .u64 (M : Int) ((2 ^ ps[i].toNat : Nat) : Int) = ((M ||| 2 ^ ps[i].toNat : Nat) : Int) := u64_or_nat _ _ (by omega) (by omega)
    refine Ev.step (fun k => ?_) (ih (i + 1) (M ||| 2 ^ ps[i].toNat) (by omega) (Nat.or_lt_two_pow hM h2) hm)
    simp only [super_Put.l0]
    rw [if_pos (by omega), if_pos (by omega), if_pos (by omega), er, if_pos (by omega), hs, hor, wi i ps.length hlt (by omega)]
theorem put_ev (g : Int) (s : ByteArray) (ps : List Int) (hl : ps.length < 1152921504606846976) : Ev (fun k => super_Put.f k g s ps) (putR g s ps) := by
  unfold putR
  have hr := right_ev g s ps hl
  cases h : okS g s ps with
  | true =>
    rw [h] at hr
    rw [if_pos rfl]
    refine Ev.bind hr ?_
    refine Ev.congr (fun k => ?_) (put_loop g s ps h hl ps.length 0 0 (by omega) (by decide) (by rw [List.drop_zero, Nat.zero_or]))
    rw [if_pos rfl, keyBytes_all, if_pos (okS_parts h).2.2.2]
    rfl
  | false =>
    rw [h] at hr
    refine Ev.bind hr ?_
    exact Ev.now _
end Go.Proofs.YtfffnogmkbbfkaaDoor.SupB
