/- LebBack, where what comes in is small: what is written is read as it was, whatever stands behind: at every number and every two rows of bytes of together at most 1048576. -/
import Derived.Test.YtnlndcidnomioaaDoorLebB
import Derived.Test.YtnlndcidnomioaaDoorHx0
import Derived.Test.YtnlndcidnomioaaDoorHx4
import Derived.Test.YtnlndcidnomioaaDoorHx5
namespace Go.Proofs.YtnlndcidnomioaaDoor.Pure
open Go.RowKit Go.Proofs.YtnlndcidnomioaaDoor.Fn Go.Proofs.YtnlndcidnomioaaDoorW.PrintWords Go.Proofs.YtnlndcidnomioaaDoorW.PrintLast Go.Proofs.YtnlndcidnomioaaDoor.U Go.Proofs.YtnlndcidnomioaaDoor.LebA Go.Proofs.YtnlndcidnomioaaDoor.LebB
theorem R_bytes {x : Nat} (hx : x < 18446744073709551616) (rest : List Nat) : R ((D (sz x) x ++ rest).take 10) 0 0 = (x, sz x, 0) := by
  have hs := sz_le hx
  have e : (D (sz x) x ++ rest).take 10 = D (sz x) x ++ rest.take (10 - sz x) := by
    rw [List.take_append, D_length, List.take_of_length_le (by rw [D_length]; exact hs)]
  rw [e, R_D (sz x) x 0 0 _ (sz_fit hx) (fun _ => .inl rfl) (by omega) (by simpa using hx)]
  simp
theorem LebBackUpto : ∀ (a0 : Int) (l1 l2 : List Int), (okInt .u64) a0 → (okRow 1 (okInt .u8)) l1 → (okRow 1 (okInt .u8)) l2 → l1.length + l2.length ≤ 1048576 → ∃ k, palimpsestlaw02_LebBack.f k a0 l1 l2 = some true := by
  intro x0 l1 l2 hx0 hl1 hl2 hlen
  have hx1 := u64_range hx0
  obtain ⟨x, rfl⟩ := Int.eq_ofNat_of_zero_le hx1.1
  have hx : x < 18446744073709551616 := by omega
  clear hx0 hx1
  obtain ⟨b, rfl, hb⟩ := bytes_of hl1.2.2
  obtain ⟨c, rfl, hc⟩ := bytes_of hl2.2.2
  clear hl1 hl2
  rw [ofN_length, ofN_length] at hlen
  have hn : b.length < 18446744073709551616 := by omega
  have hs := sz_le hx
  have hs1 := (sz_fit hx).1
  have hsn := sz_le hn
  have hbl : IntKind.u64.wrap ((ofN b).length : Int) = ((b.length : Nat) : Int) := by rw [ofN_length, wu (by omega) (by omega)]
  have hb1 : Ev (fun k => leb_Bytes.f k (ofN b)) (ofN (D (sz b.length) b.length ++ b)) := by
    unfold leb_Bytes.f
    rw [hbl, ofN_append]
    refine Ev.bind (put_ev hn) (Ev.congr (fun k => ?_) (Ev.now _))
    rw [if_pos (by rw [ofN_length, ofN_length, D_length]; omega)]
  have hD := D_lt (sz x) x (sz_fit hx).2.1
  have hDn := D_lt (sz b.length) b.length (sz_fit hn).2.1
  have g : Ev (fun k => leb_Get.f k (ofN (D (sz x) x) ++ ofN c)) ((x : Int), ((sz x : Nat) : Int), (0 : Int)) := by
    have h := Get_ev (l := D (sz x) x ++ c) (fun d hd => by rcases List.mem_append.1 hd with h | h; (· exact hD d h); exact hc d h)
    rw [R_bytes hx, ofN_append] at h
    exact h
  have t : Ev (fun k => leb_Take.f k (ofN (D (sz b.length) b.length ++ b) ++ ofN c) ((ofN b).length : Int)) (ofN b, ((sz b.length + b.length : Nat) : Int), (0 : Int)) := by
    have h := Take_ev (l := (D (sz b.length) b.length ++ b) ++ c) (fun d hd => by
      rcases List.mem_append.1 hd with h | h
      · rcases List.mem_append.1 h with h | h
        · exact hDn d h
        · exact hb d h
      · exact hc d h) (by simp only [List.length_append, D_length]; omega) ((b.length : Nat) : Int) (by omega)
    have eT : T ((D (sz b.length) b.length ++ b) ++ c) ((b.length : Nat) : Int) = (b, sz b.length + b.length, 0) := by
      unfold T
      rw [List.append_assoc, R_bytes hn]
      have hL : (D (sz b.length) b.length ++ (b ++ c)).length = sz b.length + (b.length + c.length) := by simp only [List.length_append, D_length]
      rw [if_neg (by simp), if_neg (by simp), hL, if_neg (by show ¬ (sz b.length + (b.length + c.length) - sz b.length < b.length); omega)]
      have hdr : (D (sz b.length) b.length ++ (b ++ c)).drop (sz b.length) = b ++ c := by
        have h0 := List.drop_left (l₁ := D (sz b.length) b.length) (l₂ := b ++ c)
        rw [D_length] at h0
        exact h0
      show (((D (sz b.length) b.length ++ (b ++ c)).drop (sz b.length)).take b.length, sz b.length + b.length, 0) = _
      rw [hdr, List.take_left]
    rw [eT, ofN_append] at h
    rw [ofN_length]
    exact h
  apply Ev.rounds
  unfold palimpsestlaw02_LebBack.f
  refine Ev.bind (put_ev hx) ?_
  have tail2 : Ev (fun k => (leb_Take.f k (ofN (D (sz b.length) b.length ++ b) ++ ofN c) ((ofN b).length : Int)).bind fun bt241 => (if (x : Int) = (x : Int) then (if ((sz x : Nat) : Int) = ((ofN (D (sz x) x)).length : Int) then (if (0 : Int) = 0 then ((palimpsestref02_Same.f (ofN b) bt241.1).bind fun t246 => (if t246 = true then (if bt241.2.1 = ((ofN (D (sz b.length) b.length ++ b)).length : Int) then (if bt241.2.2 = 0 then (if ((ofN (D (sz x) x)).length : Int) ≥ 1 then (if ((ofN (D (sz x) x)).length : Int) ≤ 10 then ((palimpsestlaw02_heads.f k).bind fun t247 => (some t247)) else (some false)) else (some false)) else (some false)) else (some false)) else (some false))) else (some false)) else (some false)) else (some false))) true := by
    refine Ev.bind t (Ev.congr (fun k => ?_) heads_bind)
    dsimp only
    have e1 : ((ofN (D (sz x) x)).length : Int) = ((sz x : Nat) : Int) := by rw [ofN_length, D_length]
    have e2 : ((ofN (D (sz b.length) b.length ++ b)).length : Int) = ((sz b.length + b.length : Nat) : Int) := by rw [ofN_length, List.length_append, D_length]
    rw [e1, e2, if_pos rfl, if_pos rfl, if_pos rfl, same_self]
    simp only [Option.bind_some]
    rw [if_pos trivial, if_pos trivial, if_pos trivial, if_pos (by omega), if_pos (by omega)]
  have tail1 : Ev (fun k => (leb_Get.f k (ofN (D (sz x) x) ++ ofN c)).bind fun bt226 => ((leb_Bytes.f k (ofN b)).bind fun t229 => ((some (([] : List Int) : List Int)).bind fun y232 => (if y232.length + t229.length < 140737488355328 then ((some (y232 ++ t229 : List Int)).bind fun y235 => (if y235.length + (ofN c).length < 140737488355328 then ((leb_Take.f k (y235 ++ ofN c) ((ofN b).length : Int)).bind fun bt241 => (if (x : Int) = bt226.1 then (if bt226.2.1 = ((ofN (D (sz x) x)).length : Int) then (if bt226.2.2 = 0 then ((palimpsestref02_Same.f (ofN b) bt241.1).bind fun t246 => (if t246 = true then (if bt241.2.1 = (t229.length : Int) then (if bt241.2.2 = 0 then (if ((ofN (D (sz x) x)).length : Int) ≥ 1 then (if ((ofN (D (sz x) x)).length : Int) ≤ 10 then ((palimpsestlaw02_heads.f k).bind fun t247 => (some t247)) else (some false)) else (some false)) else (some false)) else (some false)) else (some false))) else (some false)) else (some false)) else (some false))) else (none))) else (none))))) true := by
    refine Ev.bind g (Ev.bind hb1 (Ev.congr (fun k => ?_) tail2))
    simp only [Option.bind_some, List.nil_append]
    rw [if_pos (by rw [ofN_length, List.length_append, D_length]; simp; omega), if_pos (by rw [ofN_length, ofN_length, List.length_append, D_length]; omega)]
  refine Ev.congr (fun k => ?_) tail1
  simp only [Option.bind_some, List.nil_append]
  rw [if_pos (by rw [ofN_length, D_length]; simp; omega), if_pos (by rw [ofN_length, ofN_length, D_length]; omega)]
end Go.Proofs.YtnlndcidnomioaaDoor.Pure
