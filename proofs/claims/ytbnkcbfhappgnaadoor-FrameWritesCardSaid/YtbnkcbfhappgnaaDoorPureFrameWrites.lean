import Derived.Test.YtbnkcbfhappgnaaDoorFrM
import Derived.Test.YtbnkcbfhappgnaaDoorHx0
import Derived.Test.YtbnkcbfhappgnaaDoorHx14
import Derived.Test.YtbnkcbfhappgnaaDoorHx15
import Derived.Test.YtbnkcbfhappgnaaDoorHx16
namespace Go.Proofs.YtbnkcbfhappgnaaDoor.LebB
open Go.RowKit Go.Proofs.YtbnkcbfhappgnaaDoor.Fn Go.Proofs.YtbnkcbfhappgnaaDoorW.PrintWords Go.Proofs.YtbnkcbfhappgnaaDoorW.PrintLast Go.Proofs.YtbnkcbfhappgnaaDoor.U Go.Proofs.YtbnkcbfhappgnaaDoor.LebA
set_option linter.unusedVariables false
set_option linter.unusedSimpArgs false
theorem rput_l0 (n : Nat) : ∀ (x : Nat) (acc : List Nat), x < 18446744073709551616 → x < 128 ^ (n + 1) → acc.length + n < 1000 → Ev (fun k => q02_Put.l0 k (x : Int) (ofN acc)) (ofN (acc ++ E n x)) := by
  have app : ∀ (acc : List Nat) (y : Nat), ofN acc ++ [(y : Int)] = ofN (acc ++ [y]) := fun acc y => by simp
  induction n with
  | zero =>
    intro x acc hx h ha
    simp at h
    refine Ev.step (fun k => ?_) (Ev.now _)
    simp only [q02_Put.l0, E]
    have e : (x : Int) % 256 = (x : Int) := by omega
    rw [if_neg (by omega), ofN_length, if_pos (by omega), e, app]
  | succ n ih =>
    intro x acc hx h ha
    by_cases h1 : x < 128
    · refine Ev.step (fun k => ?_) (Ev.now _)
      simp only [q02_Put.l0, E]
      have e : (x : Int) % 256 = (x : Int) := by omega
      rw [if_neg (by omega), ofN_length, if_pos (by omega), e, if_pos h1, app]
    · have key := ih (x / 128) (acc ++ [x % 128 + 128]) (by omega) (by rw [Nat.div_lt_iff_lt_mul (by decide)]; rw [Nat.pow_succ] at h; exact h) (by simp; omega)
      have eE : E (n + 1) x = (x % 128 + 128) :: E n (x / 128) := by simp only [E]; rw [if_neg h1]
      rw [List.append_assoc] at key
      rw [eE]
      refine Ev.step (fun k => ?_) key
      simp only [q02_Put.l0]
      have e1 : IntKind.u64.wrap (Int.tdiv (x : Int) 128) = ((x / 128 : Nat) : Int) := by
        rw [Int.tdiv_eq_ediv_of_nonneg (by omega), wu (by omega) (by omega)]
        omega
      have e2 : IntKind.u64.wrap (Int.tmod (x : Int) 128 + 128) % 256 = ((x % 128 + 128 : Nat) : Int) := by
        rw [Int.tmod_eq_emod_of_nonneg (by omega), wu (by omega) (by omega)]
        omega
      rw [if_pos (by omega), ofN_length, if_pos (by omega), e1, e2, app]
theorem rput_ev {x : Nat} (hx : x < 18446744073709551616) : Ev (fun k => q02_Put.f k (x : Int)) (ofN (D (sz x) x)) := by
  have h := rput_l0 9 x [] hx (by have e : 128 ^ (9 + 1) = 1180591620717411303424 := by decide
                                  omega) (by simp)
  rw [List.nil_append, E_D (sz x) 9 x (sz_le hx) (sz_fit hx)] at h
  exact h
end Go.Proofs.YtbnkcbfhappgnaaDoor.LebB
namespace Go.Proofs.YtbnkcbfhappgnaaDoor.Pure
open Go.RowKit Go.Proofs.YtbnkcbfhappgnaaDoor.Fn Go.Proofs.YtbnkcbfhappgnaaDoorW.PrintWords Go.Proofs.YtbnkcbfhappgnaaDoorW.PrintLast Go.Proofs.YtbnkcbfhappgnaaDoor.U
theorem refLebBytes_ev (d : List Nat) (hl : d.length ≤ 8192) : Ev (fun k => q02_Bytes.f k (ofN d)) (ofN (LebA.D (LebA.sz d.length) d.length ++ d)) := by
  have hw : IntKind.u64.wrap ((ofN d).length : Int) = ((d.length : Nat) : Int) := by rw [ofN_length, LebB.wu (by omega) (by omega)]
  have hs := sz_small hl
  refine Ev.congr (fun k => ?_) (Ev.bind (LebB.rput_ev (x := d.length) (by omega)) (f := fun _ t => if t.length + (ofN d).length < 140737488355328 then some (t ++ ofN d) else none) ?_)
  · unfold q02_Bytes.f; rw [hw]
  · rw [if_pos (by rw [ofN_length, ofN_length, LebA.D_length]; omega), ← ofN_append]
    exact Ev.now _
theorem refWrite12_ev (kn : Nat) (hk : kn < 256) (d : List Nat) (hd : ∀ x ∈ d, x < 256) (hl : d.length ≤ 8192) : Ev (fun k => q12_write.f k (kn : Int) (ofN d)) (ofN (rec kn d)) := by
  have hm : ((kn : Int)) % 256 = (kn : Int) := by omega
  have hs := sz_small hl
  have e : ([165, (kn : Int)] : List Int) ++ ofN (LebA.D (LebA.sz d.length) d.length ++ d) = ofN (bodyV kn d) := by
    unfold bodyV
    rw [ofN_append [165, kn]]
    rfl
  have e4 := CrcC.rbytes_ev (bodyV kn d) (bodyV_lt hk hd hl) (by rw [bodyV_length]; omega)
  refine Ev.congr (f := fun k => (q02_Bytes.f k (ofN d)).bind fun t479 => (if [165, (kn : Int)].length + t479.length < 140737488355328 then ((q03_Bytes.f k ([165, (kn : Int)] ++ t479)).bind fun t485 => (some t485)) else none)) (fun k => ?_) (Ev.bind (refLebBytes_ev d hl) ?_)
  · unfold q12_write.f
    rw [hm, Option.bind_some]
  · have hc : ([165, (kn : Int)] : List Int).length + (ofN (LebA.D (LebA.sz d.length) d.length ++ d)).length < 140737488355328 := by rw [ofN_length, List.length_append, LebA.D_length]; simp; omega
    simp only [if_pos hc, e]
    exact Ev.bind (f := fun _ t => some t) e4 (Ev.now _)
theorem refKind_eq (n : Int) : q12_kind.f n = some (decide (1 ≤ n ∧ n ≤ 4)) := kind_eq n
theorem refPut_ev (kind : Int) (s : ByteArray) (d : List Nat) (hd : ∀ x ∈ d, x < 256) (hl : d.length < 140737488355000) : Ev (fun k => q12_Put.f k kind s (ofN d)) (putV kind s d) := by
  unfold putV
  by_cases hk : 1 ≤ kind ∧ kind ≤ 4
  · by_cases h8 : d.length ≤ 8192
    · have e0 : ∀ k, q12_Put.f k kind s (ofN d) = (q07_Of.f k kind (ofN d)).bind fun t490 => (if t490.toList = s.toList then ((q12_write.f k kind (ofN d)).bind fun t491 => (some (t491, (0 : Int)))) else (some (([] : List Int), 120))) := by
        intro k
        unfold q12_Put.f
        rw [refKind_eq, decide_eq_true hk, Option.bind_some, if_pos rfl, if_neg (by rw [ofN_length]; omega)]
      have hof := refOf_ev kind (ofN d) (fun x hx => by
        unfold ofN at hx
        obtain ⟨y, hy, rfl⟩ := List.mem_map.1 hx
        have := hd y hy
        exact ⟨Int.natCast_nonneg _, by show (y : Int) < 256; omega⟩) (by rw [ofN_length]; exact hl)
      refine Ev.congr e0 (Ev.bind hof ?_)
      by_cases hs : (keyOf kind (ofN d)).toList = s.toList
      · simp only [if_pos hs]
        rw [if_pos ⟨hk.1, hk.2, h8, hs⟩]
        obtain ⟨kn, rfl⟩ := Int.eq_ofNat_of_zero_le (show 0 ≤ kind by omega)
        exact Ev.bind (f := fun _ t => some (t, (0 : Int))) (refWrite12_ev kn (by omega) d hd h8) (Ev.now _)
      · simp only [if_neg hs]
        rw [if_neg (fun h => hs h.2.2.2)]
        exact Ev.now _
    · rw [if_neg (fun h => h8 h.2.2.1)]
      refine Ev.congr (fun k => ?_) (Ev.now _)
      unfold q12_Put.f
      rw [refKind_eq, decide_eq_true hk, Option.bind_some, if_pos rfl, if_pos (by rw [ofN_length]; omega)]
  · rw [if_neg (fun h => hk ⟨h.1, h.2.1⟩)]
    refine Ev.congr (fun k => ?_) (Ev.now _)
    unfold q12_Put.f
    rw [refKind_eq, decide_eq_false hk, Option.bind_some, if_neg (by decide)]
theorem refSize_ev (n : Int) : Ev (fun k => q12_Size.f k n) (sizeV n) := by
  unfold sizeV
  by_cases h0 : n < 0
  · rw [if_pos (.inl h0)]
    refine Ev.congr (fun k => ?_) (Ev.now _)
    unfold q12_Size.f
    rw [if_pos h0]
  · by_cases h1 : n > 8192
    · rw [if_pos (.inr h1)]
      refine Ev.congr (fun k => ?_) (Ev.now _)
      unfold q12_Size.f
      rw [if_neg h0, if_pos h1]
    · rw [if_neg (by omega)]
      obtain ⟨x, rfl⟩ := Int.eq_ofNat_of_zero_le (show 0 ≤ n by omega)
      have hs : LebA.sz x ≤ 10 := sz_small (by omega)
      refine Ev.congr (fun k => ?_) (Ev.bind (LebB.rput_ev (x := x) (by omega)) (f := fun _ t => some (wrap64 ((wrap64 (6 + (t.length : Int))) + (x : Int)))) ?_)
      · unfold q12_Size.f
        rw [if_neg h0, if_neg h1, LebB.wu (by omega) (by omega)]
      · rw [ofN_length, LebA.D_length, Int.toNat_natCast, w64 (x := 6 + (LebA.sz x : Int)) (by omega) (by omega), w64 (by omega) (by omega)]
        exact Ev.now _
theorem FrameWrites : l12_FrameWrites.Pure := by
  intro a s l2 n ha hs hl2 hn
  apply Ev.rounds
  obtain ⟨d, rfl, hd⟩ := bytes_of hl2.2.2
  clear hl2 ha hs hn
  by_cases h9 : ((ofN d).length : Int) > 9000
  · refine Ev.congr (fun k => ?_) heads_bind
    unfold l12_FrameWrites.f
    rw [if_pos h9]
  have hl : d.length ≤ 9000 := by rw [ofN_length] at h9; omega
  have p := framePut_ev a s d hd (by omega)
  have q := refPut_ev a s d hd (by omega)
  have same : q02_Same.f (putV a s d).1 (putV a s d).1 = some true := by unfold q02_Same.f; simp
  refine Ev.congr (f := fun k => (frame_Put.f k a s (ofN d)).bind fun bt499 => ((q12_Put.f k a s (ofN d)).bind fun bt503 => ((q02_Same.f bt499.1 bt503.1).bind fun t507 => (if t507 = true then (if bt499.2 = bt503.2 then ((frame_Size.f n).bind fun t508 => ((q12_Size.f k n).bind fun t509 => (if t508 = t509 then ((l12_heads.f k).bind fun t510 => (some t510)) else (some false)))) else (some false)) else (some false))))) (fun k => ?_) (Ev.bind p (Ev.bind q ?_))
  · unfold l12_FrameWrites.f
    rw [if_neg h9]
  simp only [same, Option.bind_some, if_true, size_ev]
  refine Ev.bind (refSize_ev n) ?_
  simp only [if_true]
  exact heads_bind
end Go.Proofs.YtbnkcbfhappgnaaDoor.Pure
