import Derived.Test.YtfffnogmkbbfkaaDoorHx0
namespace Go.Proofs.YtfffnogmkbbfkaaDoor.Fn
set_option maxHeartbeats 8000000
set_option maxRecDepth 100000
open Go.RowKit Go.Proofs.YtfffnogmkbbfkaaDoorW.PrintWords Go.Proofs.YtfffnogmkbbfkaaDoorW.PrintLast Go.Proofs.YtfffnogmkbbfkaaDoorW.PrintMore
attribute [local go_sem] max2_int min2_int max_two min_two max_three min_three max_four min_four
set_option linter.unusedVariables false
set_option linter.unusedSimpArgs false
section
open Go.Lib
set_option maxHeartbeats 2000000 in
theorem strings_set_contains (b : Nat) (x : UInt8) (v : Bool) (w : World) (hc : w.cell? ⟨b, x.toNat, none⟩ = some (.bool v)) :
    Calls Tryd.prog 64 #[.pointer (some ⟨b, 0, none⟩), .int .u8 x.toNat] w fun e w' => e = .returned (.bool v) ∧ w' = w := by
 (have hx256 : (x.toNat : Int) < 256 := by have := UInt8.toNat_lt x; omega); (go_enter Tryd.func64, Tryd.ntmps64); go_wp2; go_ret; exact ⟨rfl, rfl⟩
set_option maxHeartbeats 4000000 in
set_option maxRecDepth 1000000 in
theorem strings_trimLeftASCII (s : ByteArray) (b : Nat) (cs : List UInt8) (w : World) (hset : ∀ x : UInt8, w.cell? ⟨b, x.toNat, none⟩ = some (.bool (cs.contains x))) :
    Calls Tryd.prog 51 #[.string s, .pointer (some ⟨b, 0, none⟩)] w fun e w' => e = .returned (.string ⟨(Lib.trimLeftS s.data.toList cs).toArray⟩) ∧ w' = w := by
 have HS := aM_ hset; clear hset; (go_enter Tryd.func51, Tryd.ntmps51); go_wp2; (go_loop [0] (fun v => ∃ k : Nat, k ≤ s.size ∧ v = .string ⟨(s.data.toList.drop k).toArray⟩ ∧ ∀ (j : Nat) b, j < k → s.data.toList[j]? = some b → cs.contains b = true) (fun v => Lib.strSize v))
 case atStart => exact ⟨0, Nat.zero_le _, by simp, fun j b hj => absurd hj (Nat.not_lt_zero _)⟩
 case round =>
  obtain ⟨k, hk, rfl, hc⟩ := hrel; (have hts : (⟨(s.data.toList.drop k).toArray⟩ : ByteArray).size = s.size - k := by rw [Lib.size_mk, lD_, ← Lib.size_eq])
  have hb0 : ∀ h, s.data.toList[k]? = some ((⟨(s.data.toList.drop k).toArray⟩ : ByteArray)[0]'h) := by
   intro h; rw [← Lib.getElem_mk (s.data.toList.drop k) 0 h, List.getElem?_drop]; rfl
  have hx1 : (⟨(s.data.toList.drop k).toArray⟩ : ByteArray).extract 1 (s.size - k) = ⟨(s.data.toList.drop (k + 1)).toArray⟩ := by
   rw [Lib.extract_mk, List.drop_drop, List.take_of_length_le (by simp; omega)]
  have hK : Lib.Kept (∀ (j : Nat) b, j < k → s.data.toList[j]? = some b → cs.contains b = true) := hc; clear hc; generalize ht : (⟨(s.data.toList.drop k).toArray⟩ : ByteArray) = t at hts hb0 hx1 ⊢; have hK3 : Lib.Kept ((⟨(s.data.toList.drop k).toArray⟩ : ByteArray) = t) := ht; clear ht; (have hkl : Lib.Kept (k ≤ s.data.toList.length) := by rw [← Lib.size_eq]; exact hk); (by_cases h0 : 0 < t.size)
  · have hbk := hb0 h0
    clear hb0; have hK2 : Lib.Kept (s.data.toList[k]? = some (t[0]'h0)) := hbk; clear hbk; have hcx := HS.out (t[0]'h0); (cases hin : cs.contains (t[0]'h0) <;> rw [hin] at hcx)
    · have HI : Lib.Kept (cs.contains (t[0]'h0) = false) := hin
      clear hin; (go_wp2_with (go_at_call 64; refine (strings_set_contains _ (t[0]'h0) _ _ hcx).mono ?_; rintro e w' ⟨rfl, hw⟩; rw [hw])); go_ret; refine ⟨?_, rfl⟩; have ht' : (⟨(s.data.toList.drop k).toArray⟩ : ByteArray) = t := hK3; show Ending.returned (Value.string t) = _
      rw [Lib.trimLeftS_drop s.data.toList cs k hkl hK (fun b hb => by
       have h2 : s.data.toList[k]? = some (t[0]'h0) := hK2; rw [h2] at hb; rw [← oJ_ hb]
       exact HI), ht']
    (· have HI : Lib.Kept (cs.contains (t[0]'h0) = true) := hin; clear hin; (go_wp2_with (go_at_call 64; refine (strings_set_contains _ (t[0]'h0) _ _ hcx).mono ?_; rintro e w' ⟨rfl, hw⟩; rw [hw])); refine ⟨⟨k + 1, by omega, rfl, fun j b hj hb => ?_⟩, ?_⟩; (· (by_cases e : j = k); (· subst e; have h2 : s.data.toList[j]? = some (t[0]'h0) := hK2; (have h3 : s.data.toList[j]? = some b := by simpa using hb); rw [h2] at h3; rw [← oJ_ h3]; exact HI); (· exact hK j b (by omega) (by simpa using hb))); (· rw [Lib.strSize_string, Lib.strSize_string, Lib.size_mk, lD_, ← Lib.size_eq]; omega))
  · clear hb0
    go_wp2; go_ret; refine ⟨?_, rfl⟩; have ht' : (⟨(s.data.toList.drop k).toArray⟩ : ByteArray) = t := hK3; show Ending.returned (Value.string t) = _
    rw [Lib.trimLeftS_drop s.data.toList cs k hkl hK (fun b hb => by
     (have : s.data.toList.length ≤ k := by rw [← Lib.size_eq]; omega)
     simp [List.getElem?_eq_none this] at hb), ht']
set_option maxHeartbeats 4000000 in
set_option maxRecDepth 1000000 in
theorem strings_trimRightASCII (s : ByteArray) (b : Nat) (cs : List UInt8) (w : World) (hs : s.size ≤ 9223372036854775807) (hset : ∀ x : UInt8, w.cell? ⟨b, x.toNat, none⟩ = some (.bool (cs.contains x))) :
    Calls Tryd.prog 52 #[.string s, .pointer (some ⟨b, 0, none⟩)] w fun e w' => e = .returned (.string ⟨(Lib.trimRightS s.data.toList cs).toArray⟩) ∧ w' = w := by
 have HS := aM_ hset; clear hset; (go_enter Tryd.func52, Tryd.ntmps52); go_wp2; (go_loop [0] (fun v => ∃ k : Nat, k ≤ s.size ∧ v = .string ⟨(s.data.toList.take k).toArray⟩ ∧ ∀ (j : Nat) b, k ≤ j → s.data.toList[j]? = some b → cs.contains b = true) (fun v => Lib.strSize v))
 case atStart =>
  refine ⟨s.size, Nat.le_refl _, ?_, fun j b hj hb => ?_⟩; (· rw [Lib.size_eq, List.take_length, Lib.mk_data]); (· (have : s.data.toList.length ≤ j := by rw [← Lib.size_eq]; exact hj); simp [List.getElem?_eq_none this] at hb)
 case round =>
  obtain ⟨k, hk, rfl, hc⟩ := hrel; (have hkl : k ≤ s.data.toList.length := by rw [← Lib.size_eq]; exact hk); (have hts : (⟨(s.data.toList.take k).toArray⟩ : ByteArray).size = k := by rw [Lib.size_mk, lT_]; omega)
  have hb0 : ∀ h, s.data.toList[k - 1]? = some ((⟨(s.data.toList.take k).toArray⟩ : ByteArray)[k - 1]'h) := by
   intro h; rw [← Lib.getElem_mk (s.data.toList.take k) (k - 1) h, List.getElem?_take]; rw [hts] at h; rw [if_pos h]
  have hx1 : (⟨(s.data.toList.take k).toArray⟩ : ByteArray).extract 0 (k - 1) = ⟨(s.data.toList.take (k - 1)).toArray⟩ := by
   rw [Lib.extract_mk, List.drop_zero, List.take_take]
   congr 3
   omega
  have hK : Lib.Kept (∀ (j : Nat) b, k ≤ j → s.data.toList[j]? = some b → cs.contains b = true) := hc; clear hc; have hkl' : Lib.Kept (k ≤ s.data.toList.length) := hkl; clear hkl; generalize ht : (⟨(s.data.toList.take k).toArray⟩ : ByteArray) = t at hts hb0 hx1 ⊢; have hK3 : Lib.Kept ((⟨(s.data.toList.take k).toArray⟩ : ByteArray) = t) := ht; clear ht; (by_cases h0 : 0 < k)
  · have h1 : k - 1 < t.size := by omega
    (have hwr : ((k : Int) - 1 + 9223372036854775808) % 18446744073709551616 - 9223372036854775808 = ((k - 1 : Nat) : Int) := by omega); have hbk := hb0 h1; clear hb0; have hK2 : Lib.Kept (s.data.toList[k - 1]? = some (t[k - 1]'h1)) := hbk; clear hbk; have hcx := HS.out (t[k - 1]'h1); (cases hin : cs.contains (t[k - 1]'h1) <;> rw [hin] at hcx)
    · have HI : Lib.Kept (cs.contains (t[k - 1]'h1) = false) := hin
      clear hin; (go_wp2_with (go_at_call 64; refine (strings_set_contains _ (t[k - 1]'h1) _ _ hcx).mono ?_; rintro e w' ⟨rfl, hw⟩; rw [hw])); go_ret; refine ⟨?_, rfl⟩; have ht' : (⟨(s.data.toList.take k).toArray⟩ : ByteArray) = t := hK3; show Ending.returned (Value.string t) = _
      rw [Lib.trimRightS_take s.data.toList cs k hkl' hK (fun b _ hb => by
       have h2 : s.data.toList[k - 1]? = some (t[k - 1]'h1) := hK2; rw [h2] at hb; rw [← oJ_ hb]
       exact HI), ht']
    (· have HI : Lib.Kept (cs.contains (t[k - 1]'h1) = true) := hin; clear hin; (go_wp2_with (go_at_call 64; refine (strings_set_contains _ (t[k - 1]'h1) _ _ hcx).mono ?_; rintro e w' ⟨rfl, hw⟩; rw [hw])); refine ⟨⟨k - 1, by omega, rfl, fun j b hj hb => ?_⟩, ?_⟩; (· (by_cases e : j = k - 1); (· subst e; have h2 : s.data.toList[k - 1]? = some (t[k - 1]'h1) := hK2; (have h3 : s.data.toList[k - 1]? = some b := by simpa using hb); rw [h2] at h3; rw [← oJ_ h3]; exact HI); (· exact hK j b (by omega) (by simpa using hb))); (· have hkl : k ≤ s.data.toList.length := hkl'; rw [Lib.strSize_string, Lib.strSize_string, Lib.size_mk, lT_]; omega))
  (· clear hb0; go_wp2; go_ret; refine ⟨?_, rfl⟩; have ht' : (⟨(s.data.toList.take k).toArray⟩ : ByteArray) = t := hK3; show Ending.returned (Value.string t) = _; rw [Lib.trimRightS_take s.data.toList cs k hkl' hK (fun b hk0 _ => absurd hk0 h0), ht'])
set_option maxHeartbeats 4000000 in
set_option maxRecDepth 1000000 in
theorem strings_makeASCIISet (chars : ByteArray) (w : World) (hs : chars.size < 4294967281)
    (hascii : ∀ (j : Nat) b, chars.data.toList[j]? = some b → b.toNat < 128) :
    Calls Tryd.prog 50 #[.string chars] w fun e w' => e = .returned (.tuple #[.agg (Lib.setCells chars.data.toList), .bool true]) ∧ w' = w.alloc (.cells (Lib.setCells chars.data.toList) 81) := by
 have HA := aM_ hascii; clear hascii; (have hi116 : (Tryd.prog.info? 81).map (·.size) = some 256 := by kernel_rfl); (go_enter Tryd.func50, Tryd.ntmps50); go_wp2; rw [show Tryd.zeroCells81 = Lib.setCells [] from by kernel_rfl]; (go_loopg [4] chars.size (fun g s4 wx => ∃ i : Nat, i + g = chars.size ∧ s4 = .int .i64 i ∧ wx = w.alloc (.cells (Lib.setCells (chars.data.toList.take i)) 81)))
 case atStart => exact ⟨0, by omega, rfl, rfl⟩
 case round =>
  obtain ⟨i, hig, rfl, rfl⟩ := hrel
  cases gk with
  | zero =>
   (obtain rfl : i = chars.size := by omega); (have hiz : ¬ ((chars.size : Int) < (chars.size : Int)) := by omega); rw [show chars.data.toList.take chars.size = chars.data.toList from List.take_of_length_le (by rw [← Lib.size_eq]; exact Nat.le_refl _)]; have hsz := Lib.setCells_size chars.data.toList; have hld := run_loadVar_new (P := Tryd.prog) w 81 (Lib.setCells chars.data.toList) 256 4 Tryd.underlying81 (by rw [hsz]; exact hi116); have hst := run_storeVar_row (P := Tryd.prog) (w.alloc (.cells (Lib.setCells chars.data.toList) 81)) w.heap.size 81 81 _ (Lib.setCells chars.data.toList) (heap_alloc_last w _) (by rw [hsz]; exact hi116) rfl (Lib.setCells_one _); rw [World.setRow_alloc_new] at hst; have HLD := aM_ hld; have HST := aM_ hst; clear hld hst; (go_upto_region 8 with (fail)); refine wp_region_lit ?_; refine Kd.event_run (v := .agg (Lib.setCells chars.data.toList)) rfl (loadRow_run HLD.out rfl) ?_; refine store_event rfl rfl rfl (storeRow_run HST.out rfl rfl) ?_; intro w18 hw; subst hw; go_wp2; refine bodyPost_ret (v := .tuple #[.agg (Lib.setCells chars.data.toList), .bool true]) ?_ rfl ⟨rfl, rfl⟩; rw [results_cell_tmp rfl]; simp [asAddr, Result.andThen, HLD.out]
  | succ g =>
   (have hi : i < chars.size := by omega); (have hiz : (i : Int) < (chars.size : Int) := by omega); obtain ⟨x, hx⟩ : ∃ x : UInt8, chars[i]'hi = x := ⟨_, rfl⟩; (have hxl : chars.data.toList[i]? = some x := by rw [← hx]; exact Lib.data_getElem? chars i hi); (have hx128 : ¬ ((128 : Int) ≤ (x.toNat : Int)) := by have := HA.out i x hxl; omega); (have hx256 : (x.toNat : Int) < 256 := by have := HA.out i x hxl; omega); have hcell := Lib.setCells_at (chars.data.toList.take i) x; have Hx := aM_ hxl; clear hxl; go_wp2; (go_roundg g)
   case measure => omega
   case rel => exact ⟨i + 1, by omega, by first | rfl | simp, by rw [List.take_add_one, Hx.out]; simp only [Option.toList]; rw [Lib.setCells_snoc]⟩
set_option maxHeartbeats 8000000 in
set_option maxRecDepth 1000000 in
theorem strings_Trim_digs (s : ByteArray) (w : World) (h0 : 0 < s.size) (hs : s.size ≤ 9223372036854775807) :
    Calls Tryd.prog 35 #[.string s, .string ⟨#[48, 49, 50, 51, 52, 53, 54, 55, 56, 57, 97, 98, 99, 100, 101, 102]⟩] w fun e w' => e = .returned (.string ⟨(Lib.trimS s.data.toList digs).toArray⟩) ∧ Below w.heap.size w w' := by
 have hM := aM_ (show Calls Tryd.prog 50 #[.string ⟨#[48, 49, 50, 51, 52, 53, 54, 55, 56, 57, 97, 98, 99, 100, 101, 102]⟩] w fun e w' => e = .returned (.tuple #[.agg (Lib.setCells digs), .bool true]) ∧ w' = w.alloc (.cells (Lib.setCells digs) 81) from strings_makeASCIISet ⟨#[48, 49, 50, 51, 52, 53, 54, 55, 56, 57, 97, 98, 99, 100, 101, 102]⟩ w (by decide) digs_ascii)
 have hemps : s.toList.isEmpty = false := by
  rw [Lib.toList_data]
  cases h : s.data.toList with
  | nil => have := Lib.size_eq s; rw [h, List.length_nil] at this; omega
  | cons _ _ => rfl
 (have hzs : Tryd.zeroCells81.size = 256 := by kernel_rfl); have hss := Lib.setCells_size digs
 have hnew : ∀ (Z : Array Value), ((w.alloc (.cells (Lib.setCells digs) 81)).alloc (.cells Z 81)).heap[w.heap.size + 1]? = some (.cells Z 81 (0, 0)) := fun Z => by
  have := blk_new (w.alloc (.cells (Lib.setCells digs) 81)) (.cells Z 81); rwa [show (w.alloc (.cells (Lib.setCells digs) 81)).heap.size = w.heap.size + 1 by simp] at this
 have HN := aM_ hnew; have HZ := aM_ (show Tryd.zeroCells81.size = (Lib.setCells digs).size by rw [hzs, hss]); have HI := aM_ (show (Tryd.prog.info? 81).map (·.size) = some (Lib.setCells digs).size by rw [hss]; kernel_rfl); have HB : Aside0 (∀ W : World, W.heap.size = w.heap.size + 1 + 1 → Below w.heap.size w W → Below w.heap.size w (W.setRow (w.heap.size + 1) (Lib.setCells digs))) := ⟨fun W hW hb => hb.trans ⟨rfl, rfl, rfl, by simp, fun k hk => setRow_other W (w.heap.size + 1) k _ (by omega)⟩⟩; clear hnew hzs hss; (have hset : ∀ (W : World), (W.heap[w.heap.size + 1]? = some (.cells (Lib.setCells digs) 81 (0, 0))) → ∀ x : UInt8, W.cell? ⟨w.heap.size + 1, x.toNat, none⟩ = some (.bool (digs.contains x)) := fun W hW x => by rw [kC_ hW, Lib.setCells_at]); have HS := aM_ hset; clear hset; (go_enter Tryd.func35, Tryd.ntmps35); (go_wp2_with (first | (go_at_call 50; refine hM.out.mono ?_; rintro e w' ⟨rfl, hw⟩; rw [hw]) | (refine wpList_store_row rfl 81 (.tmp 5) (.tmp 32) rfl (w.heap.size + 1) (Lib.setCells digs) rfl rfl 81 _ (HN.out _) HI.out HZ.out (Lib.setCells_one _) ?_; have hblk := setRow_heap _ _ _ (Lib.setCells digs) _ _ (HN.out Tryd.zeroCells81); have HBK := aM_ hblk; clear hblk; have hbl := HB.out _ (by simp) (((Below.refl _ _).alloc (Nat.le_refl _) (.cells (Lib.setCells digs) 81)).alloc (by simp) (.cells Tryd.zeroCells81 81)); have HBL := aM_ hbl; clear hbl; generalize (((w.alloc (.cells (Lib.setCells digs) 81)).alloc (.cells Tryd.zeroCells81 81)).setRow (w.heap.size + 1) (Lib.setCells digs)) = w5 at HBK HBL ⊢) | (go_at_call 52; refine (strings_trimRightASCII s (w.heap.size + 1) digs _ hs (HS.out _ HBK.out)).mono ?_; rintro e w' ⟨rfl, hw⟩; rw [hw]) | (go_at_call 51; refine (strings_trimLeftASCII _ (w.heap.size + 1) digs _ (HS.out _ HBK.out)).mono ?_; rintro e w' ⟨rfl, hw⟩; rw [hw]))); go_ret; exact ⟨rfl, HBL.out⟩
set_option maxHeartbeats 1000000 in
set_option maxRecDepth 100000 in
theorem stringslite_IndexByte_any (s : ByteArray) (c : Int) (w : World) :
    Calls Tryd.prog 55 #[.string s, .int .u8 c] w fun e w' => e = .returned (.int .i64 (Lib.indexByte s.data.toList c.toNat.toUInt8)) ∧ w' = w := by
 (go_enter Tryd.func55, Tryd.ntmps55); go_wp2; rw [run_callFunc_extern Tryd.func68 (by kernel_rfl) (by kernel_rfl) (by kernel_rfl) (e := Extern.BytealgIndexByte.indexByte) (by kernel_rfl), Lib.run_indexByteString]; simp only [Result.andThen]; rw [Oper.upon_value]; go_wp2; go_ret; exact ⟨rfl, rfl⟩
set_option maxHeartbeats 1000000 in
theorem strings_IndexByte_any (s : ByteArray) (c : Int) (w : World) :
    Calls Tryd.prog 36 #[.string s, .int .u8 c] w fun e w' => e = .returned (.int .i64 (Lib.indexByte s.data.toList c.toNat.toUInt8)) ∧ w' = w := by
 (go_enter Tryd.func36, Tryd.ntmps36); (go_wp2_with (go_at_call 55; refine (stringslite_IndexByte_any s c _).mono ?_; rintro e w' ⟨rfl, rfl⟩)); go_ret; exact ⟨rfl, rfl⟩
def key_Bytes.f (a0 : ByteArray) : Option (List Int × Int) := if isKey a0 then some (keyRow a0, 0) else some ([], 70)
def setIter (W : World) (g : Nat) (s : ByteArray) (pos : Nat) : World := { W with heap := W.heap.setIfInBounds g (.stringIter s pos) }
theorem setIter_other (W : World) (g k : Nat) (s : ByteArray) (pos : Nat) (h : k ≠ g) : (setIter W g s pos).heap[k]? = W.heap[k]? := by
 simp [setIter, Array.getElem?_setIfInBounds_ne (Ne.symm h)]
theorem setIter_same (W : World) (g : Nat) (s : ByteArray) (pos : Nat) (h : g < W.heap.size) : (setIter W g s pos).heap[g]? = some (.stringIter s pos) := by
 simp [setIter, h]
theorem setIter_below {B g : Nat} {w0 W : World} (hb : Below B w0 W) (h : B ≤ g) (s : ByteArray) (pos : Nat) : Below B w0 (setIter W g s pos) :=
  hb.trans ⟨rfl, rfl, rfl, by simp [setIter], fun k hk => setIter_other W g k s pos (by omega)⟩
theorem run_next_at {P : Program} (W : World) (g : Nat) (s : ByteArray) (pos : Nat) (ty : TypeId) (hg : W.heap[g]? = some (.stringIter s pos)) (h : pos < s.size) (ha : (s[pos]'h).toNat < 128) :
    (Instr.next (.pointer (some ⟨g, 0, none⟩)) true ty).run P W = .ok (.tuple #[.bool true, .int .i64 pos, .int .i32 (s[pos]'h).toNat]) (setIter W g s (pos + 1)) := by
 simp only [Instr.next, getObj, setObj, Sem.run_bind, Sem.run, hg, Result.andThen, h, if_true, decode_ascii s pos h ha]; simp [goInt, Sem.run, hg, setIter]
theorem run_next_over {P : Program} (W : World) (g : Nat) (s : ByteArray) (pos : Nat) (ty : TypeId) (hg : W.heap[g]? = some (.stringIter s pos)) (h : ¬ pos < s.size) :
    (Instr.next (.pointer (some ⟨g, 0, none⟩)) true ty).run P W = .ok (.tuple #[.bool false]) W := by
 simp [Instr.next, getObj, Sem.run, hg, h]
theorem key_Bytes_no1 (a0 : ByteArray) (w : World) (h : a0.size ≠ 64) :
    Calls Tryd.prog 20 #[.string a0] w fun e w' => e = .returned (.tuple #[.slice none 0 0, .int .i64 70]) ∧ Below w.heap.size w w' := by
 have hb0 : ((a0.size : Int) == 64) = false := beq_eq_false_iff_ne.mpr (by omega); (have hb : ((a0.size : Int) != 64) = true := by rw [bne, hb0]; rfl); (have h1 : ¬ ((a0.size : Int) = 64) := by omega); (go_enter Tryd.func20, Tryd.ntmps20); go_wp2; (go_ret2); exact ⟨rfl, Below.refl _ _⟩
theorem key_Bytes_no2 (a0 : ByteArray) (w : World) (h : a0.size = 64) (hn : a0.data.toList.all (digs.contains ·) = false) :
    Calls Tryd.prog 20 #[.string a0] w fun e w' => e = .returned (.tuple #[.slice none 0 0, .int .i64 70]) ∧ Below w.heap.size w w' := by
 have hb0 : ((a0.size : Int) == 64) = true := beq_iff_eq.mpr (by omega); (have hb : ((a0.size : Int) != 64) = false := by rw [bne, hb0]; rfl); (have h1 : ((a0.size : Int) = 64) := by omega); have hT := strings_Trim_digs a0 w (by omega) (by omega)
 have he : ∀ t : ByteArray, t = ⟨(Lib.trimS a0.data.toList digs).toArray⟩ → t.toList.isEmpty = false := by
  rintro t rfl; rw [Lib.toList_data]
  cases hc : Lib.trimS a0.data.toList digs with
  | nil => rw [trimS_empty] at hc; rw [hc] at hn; cases hn
  | cons x y => rfl
 generalize (⟨(Lib.trimS a0.data.toList digs).toArray⟩ : ByteArray) = t at hT he; have he2 := he t rfl; (have he3 : (!t.toList.isEmpty) = true := by rw [he2]; rfl); have HT := aM_ hT; clear he hT hn h; (go_enter Tryd.func20, Tryd.ntmps20); (go_wp2_with (go_at_call 35; refine HT.out.mono ?_; rintro e w' ⟨rfl, hb⟩; have HB := aM_ hb; clear hb)); (go_ret2); exact ⟨rfl, HB.out⟩
theorem key_Bytes_yes (a0 : ByteArray) (w : World) (h : a0.size = 64) (hn : a0.data.toList.all (digs.contains ·) = true) :
    Calls Tryd.prog 20 #[.string a0] w fun e w' => ∃ v, e = .returned (.tuple #[v, .int .i64 0]) ∧ Kd.R (Kd.int .u8) 5 w' w.heap.size (fun _ => True) v (keyRow a0) ∧ Below w.heap.size w w' := by
 have hb0 : ((a0.size : Int) == 64) = true := beq_iff_eq.mpr (by omega); (have hb : ((a0.size : Int) != 64) = false := by rw [bne, hb0]; rfl); (have h1 : ((a0.size : Int) = 64) := by omega); have hT := strings_Trim_digs a0 w (by omega) (by omega)
 have he : ∀ t : ByteArray, t = ⟨(Lib.trimS a0.data.toList digs).toArray⟩ → t.toList.isEmpty = true := by
  rintro t rfl; rw [Lib.toList_data, (trimS_empty _ _).2 hn]; rfl
 generalize (⟨(Lib.trimS a0.data.toList digs).toArray⟩ : ByteArray) = t at hT he; have he2 := he t rfl; (have he3 : (!t.toList.isEmpty) = false := by rw [he2]; rfl); have HT := aM_ hT; have HN := aM_ hn; have HS := aM_ h; (have hmk : ∀ (w : World), (Instr.makeSlice 26 (.int .i64 32) (.int .i64 32)).run Tryd.prog w = .ok (.slice (some ⟨w.heap.size, 0, none⟩) 32 32) (w.alloc (.cells ((keyAt a0.data.toList 0).map (Value.int .u8)).toArray 5)) := fun w => by rw [keyAt_zero]; kernel_rfl); clear he hT hn h; (go_enter Tryd.func20, Tryd.ntmps20); (go_wp2_with (go_at_call 35; refine HT.out.mono ?_; rintro e w5 ⟨rfl, hb⟩; have HB := aM_ hb; clear hb)); (go_loopg [5] 64 (fun g v5 wr => ∃ i : Nat, i + g = 64 ∧ Aside0 (wr.heap[w5.heap.size]? = some (.cells ((keyAt a0.data.toList i).map (Value.int .u8)).toArray 5 (0, 0))) ∧ Aside0 (wr.heap[w5.heap.size + 1]? = some (.stringIter a0 i)) ∧ Aside0 (Below w.heap.size w wr)))
 case atStart =>
  refine ⟨0, by omega, ⟨?_⟩, ⟨?_⟩, ⟨?_⟩⟩; (· have := blk_new w5 (.cells ((keyAt a0.data.toList 0).map (Value.int .u8)).toArray 5); exact kA_ this _); (· have := World.iter_heap (w5.alloc (.cells ((keyAt a0.data.toList 0).map (Value.int .u8)).toArray 5)) a0 0; (simpa using this)); (· exact (HB.out.alloc HB.out.size _).alloc (by have := HB.out.size; simp; omega) _)
 case round =>
  obtain ⟨i, hig, HX, HI, HB2⟩ := hrel; clear HT; have HG := HX.out
  cases gk with
  | zero =>
   (obtain rfl : i = 64 := by omega); have hnx : ∀ ty, (Instr.next (.pointer (some ⟨w5.heap.size + 1, 0, none⟩)) true ty).run Tryd.prog wr = _ := fun ty => run_next_over wr (w5.heap.size + 1) a0 64 ty HI.out (by have := HS.out; omega); clear HG; go_wp2; (go_ret2); refine ⟨_, rfl, ?_, HB2.out⟩; have hl : (keyRow a0).length = 32 := keyAt_length _ _; refine Kd.R_of_own (h1 := fun _ => rfl) ⟨by rw [encs_length, Nat.mul_one], .inr ⟨_, 32, _, by rw [hl]; rfl, HB.out.size, HX.out, by rw [hl]; decide, by simp [maxLen], by simp [keyAt_length], ?_⟩⟩ (fun _ _ => trivial); rw [hl, List.take_of_length_le (by simp [keyAt_length])]; rfl
  | succ g =>
   (have hi : i < a0.size := by have := HS.out; omega); obtain ⟨x, hx⟩ : ∃ x : UInt8, a0[i]'hi = x := ⟨_, rfl⟩; (have hxl : a0.data.toList[i]? = some x := by rw [← hx]; exact Lib.data_getElem? a0 i hi); have hxd : digs.contains x = true := List.all_eq_true.1 HN.out x (List.mem_of_getElem? hxl); have hnx : ∀ ty, (Instr.next (.pointer (some ⟨w5.heap.size + 1, 0, none⟩)) true ty).run Tryd.prog wr = _ := fun ty => run_next_at wr (w5.heap.size + 1) a0 i ty HI.out hi (by rw [hx]; exact digs_low x hxd); have HXD := aM_ hxd; have HXL := aM_ hxl; have hq := dg_range x hxd; obtain ⟨q, hqe⟩ : ∃ q : Int, dg x = q := ⟨_, rfl⟩; rw [hqe] at hq; obtain ⟨q0, q1⟩ := hq
   have HIX := aM_ (show Calls Tryd.prog 36 #[.string ⟨#[48, 49, 50, 51, 52, 53, 54, 55, 56, 57, 97, 98, 99, 100, 101, 102]⟩, .int .u8 x.toNat] (setIter wr (w5.heap.size + 1) a0 (i + 1)) fun e w' => e = .returned (.int .i64 q) ∧ w' = setIter wr (w5.heap.size + 1) a0 (i + 1) from by
    have := strings_IndexByte_any ⟨#[48, 49, 50, 51, 52, 53, 54, 55, 56, 57, 97, 98, 99, 100, 101, 102]⟩ (x.toNat : Int) (setIter wr (w5.heap.size + 1) a0 (i + 1)); rw [show Lib.indexByte (⟨#[48, 49, 50, 51, 52, 53, 54, 55, 56, 57, 97, 98, 99, 100, 101, 102]⟩ : ByteArray).data.toList (x.toNat : Int).toNat.toUInt8 = q by rw [← hqe]; simp [dg, digs]] at this
    exact this)
   have HQ := aM_ hqe; have hX2 : (setIter wr (w5.heap.size + 1) a0 (i + 1)).heap[w5.heap.size]? = some (.cells ((keyAt a0.data.toList i).map (Value.int .u8)).toArray 5 (0, 0)) := (setIter_other _ _ _ _ _ (by omega)).trans HX.out; have HX2 := aM_ hX2; have HI2 := aM_ (setIter_same wr (w5.heap.size + 1) a0 (i + 1) (blk_lt HI.out)); have HB3 : Aside0 (Below w.heap.size w (setIter wr (w5.heap.size + 1) a0 (i + 1))) := ⟨setIter_below HB2.out (by have := HB.out.size; omega) a0 (i + 1)⟩; clear hxl hxd HG hX2 hqe
   rcases (show ∃ m, i = 2 * m ∨ i = 2 * m + 1 from ⟨i / 2, by omega⟩) with ⟨m, hm | hm⟩
   · have hm32 : m < 32 := by omega
     (have e1 : (i : Int) / 2 = (m : Int) := by omega); (have e2 : (i : Int) % 2 = 0 := by omega)
     have hc : (setIter wr (w5.heap.size + 1) a0 (i + 1)).cell? ⟨w5.heap.size, m, none⟩ = some (.int .u8 0) := by
      rw [kC_ HX2.out, hm]; simp [keyAt_get, hm32]; omega
     have hf : (setIter wr (w5.heap.size + 1) a0 (i + 1)).frozen? ⟨w5.heap.size, m, none⟩ = false := kF_ HX2.out _; have HM := aM_ hm; (have im0 : (0 : Int) ≤ (m : Int) := by omega); (have im1 : (m : Int) < 32 := by omega); clear hm; (go_wp2_with (go_at_call 36; refine HIX.out.mono ?_; rintro e w' ⟨rfl, hw⟩; rw [hw])); (go_region)
     all_goals
       go_wp2
       go_roundg g
       case measure => omega
       case rel =>
         refine ⟨i + 1, by omega, ⟨?_⟩, ⟨?_⟩, ⟨?_⟩⟩
         · rw [or_even q q0 q1]
           refine (blk_set HX2.out m (.int .u8 (16 * q))).trans ?_
           rw [keyCells_set _ _ (i + 1) m _ (by have h1 := keyAt_even a0.data.toList m hm32; rw [← HM.out] at h1; rw [← h1, List.getD_eq_getElem?_getD, HXL.out, ← HQ.out]; rfl)]
         · exact (Below.heap_setCell _ ⟨w5.heap.size, m, none⟩ _ (w5.heap.size + 1) (by simp)).trans HI2.out
         · exact bD_ (HB3.out.setCell (by have := HB.out.size; exact this) _)
   · have hm32 : m < 32 := by omega
     (have e1 : (i : Int) / 2 = (m : Int) := by omega); (have e2 : (i : Int) % 2 = 1 := by omega); obtain ⟨y, hy⟩ : ∃ y : UInt8, a0.data.toList.getD (2 * m) 0 = y := ⟨_, rfl⟩
     have hyd : digs.contains y = true := by
      (have hlt : 2 * m < a0.data.toList.length := by rw [← Lib.size_eq, HS.out]; omega); rw [List.getD_eq_getElem?_getD, List.getElem?_eq_getElem hlt] at hy; exact List.all_eq_true.1 HN.out y (by rw [← hy]; exact List.getElem_mem hlt)
     obtain ⟨p0, p1⟩ := dg_range y hyd
     have hc : (setIter wr (w5.heap.size + 1) a0 (i + 1)).cell? ⟨w5.heap.size, m, none⟩ = some (.int .u8 (16 * dg y)) := by
      rw [kC_ HX2.out, hm]; rw [List.getElem?_toArray, List.getElem?_map, keyAt_get _ _ _ hm32, if_pos (by omega), if_neg (by omega), hy]; simp
     have hf : (setIter wr (w5.heap.size + 1) a0 (i + 1)).frozen? ⟨w5.heap.size, m, none⟩ = false := kF_ HX2.out _; have HM := aM_ hm; have HY := aM_ hy; (have im0 : (0 : Int) ≤ (m : Int) := by omega); (have im1 : (m : Int) < 32 := by omega); clear hm hy hyd; (go_wp2_with (go_at_call 36; refine HIX.out.mono ?_; rintro e w' ⟨rfl, hw⟩; rw [hw])); (go_region)
     all_goals
       go_wp2
       go_roundg g
       case measure => omega
       case rel =>
         refine ⟨i + 1, by omega, ⟨?_⟩, ⟨?_⟩, ⟨?_⟩⟩
         · rw [or_odd (dg y) q p0 p1 q0 q1]
           refine (blk_set HX2.out m (.int .u8 (16 * dg y + q))).trans ?_
           rw [keyCells_set _ _ (i + 1) m _ (by have h1 := keyAt_odd a0.data.toList m hm32; rw [← HM.out] at h1; rw [← h1, HY.out, List.getD_eq_getElem?_getD, HXL.out, ← HQ.out]; rfl)]
         · exact (Below.heap_setCell _ ⟨w5.heap.size, m, none⟩ _ (w5.heap.size + 1) (by simp)).trans HI2.out
         · exact bD_ (HB3.out.setCell (by have := HB.out.size; exact this) _)
theorem key_Bytes.calls (a0 : ByteArray) (r1 : List Int) (r2 : Int) (w : World) (h : key_Bytes.f a0 = some (r1, r2)) :
    Calls Tryd.prog 20 #[.string a0] w fun e w' => ∃ v0_ : Value, e = .returned (.tuple #[v0_, .int .i64 r2]) ∧ Kd.R (Kd.int .u8) 5 w' w.heap.size (fun _ => True) v0_ r1 ∧ Below w.heap.size w w' := by
 unfold key_Bytes.f at h; (by_cases hs : a0.size = 64); (· (by_cases hn : a0.data.toList.all (digs.contains ·) = true); (· (have hk : isKey a0 = true := by unfold isKey; rw [hn, dT_ hs]; rfl); rw [if_pos hk] at h; simp only [oI_, pI_] at h; obtain ⟨rfl, rfl⟩ := h; exact key_Bytes_yes a0 w hs hn); (· have hn' := Bool.eq_false_iff.mpr hn; (have hk : ¬ isKey a0 = true := by unfold isKey; rw [hn', Bool.and_false]; decide); rw [if_neg hk] at h; simp only [oI_, pI_] at h; obtain ⟨rfl, rfl⟩ := h; refine (key_Bytes_no2 a0 w hs hn').mono ?_; rintro e w' ⟨rfl, hb⟩; exact ⟨_, rfl, Kd.R_nil _ _ _ _ _, hb⟩)); (· (have hk : ¬ isKey a0 = true := by unfold isKey; rw [decide_eq_false hs, Bool.false_and]; decide); rw [if_neg hk] at h; simp only [oI_, pI_] at h; obtain ⟨rfl, rfl⟩ := h; refine (key_Bytes_no1 a0 w hs).mono ?_; rintro e w' ⟨rfl, hb⟩; exact ⟨_, rfl, Kd.R_nil _ _ _ _ _, hb⟩)
end
def key_Check.f (a0 : ByteArray) : Option (Bool) := (key_Bytes.f a0).bind fun bt101 => (some (bt101.2 == 0))
theorem key_Check.calls (a0 : ByteArray) (r : Bool) (w : World) (h : key_Check.f a0 = some r) :
    Calls Tryd.prog 34 #[.string a0] w fun e w' => e = .returned (.bool r) ∧ Below w.heap.size w w' := by
 have HB := aM_ (Below.refl w.heap.size w); have H : ((key_Bytes.f a0).bind fun bt101 => (some (bt101.2 == 0))) = some r := h; clear h; replace H := Option.bind_eq_some_iff.mp H; obtain ⟨⟨t101, t102⟩, A20, H⟩ := H; replace H : (some (t102 == 0)) = some r := H; have A2 := aM_ A20; clear A20; obtain rfl := oJ_ H; simp only [oI_, pI_] at H; obtain ⟨rfl⟩ := H; (go_enter Tryd.func34, Tryd.ntmps34); (go_wp2_with (first | ((with_reducible refine gate_callee (f := 20) rfl ?_); refine goesL_ (some 7) rfl rfl Tryd.func20 (by kernel_rfl) rfl #[.string a0] rfl (by (try simp only [mA_, mC_, mN_]); first | done | rfl | (simp only [lD_, lT_]; rfl)) ?_; (with_reducible refine (key_Bytes.calls a0 t101 t102 _ A2.out).mono ?_); rintro e w3 ⟨v103, rfl, ho0, hb⟩; refine ⟨_, rfl, ?_⟩; have n0_ := aM_ (Kd.R_lower ho0 (bZ_ (bZ0_ HB.out))); have n1_ := aM_ (bT_ (bZ0_ HB.out) hb); clear HB; have HO104 := n0_; have HB := n1_; clear n0_ n1_; (try clear hb); (try clear hb2); (try clear hk); (try clear hi); (try clear ho0)))); go_ret; (exact ⟨by first | rfl | (simp [errW_none, errW_some] <;> rfl) | (simp [*, errW_none, errW_some] <;> rfl), by exact bZ0_ HB.out⟩)
def super_right.l0 : Nat → Int → List Int → Int → Int → Int → ByteArray → List Int → Option (Bool)
  | 0, _, _, _, _, _, _, _ => none
  | k + 1, x3, x7, x8, x9, x106000, x106001, x106002 => if x9 < x8 then (if 0 ≤ x9 then (if x9 < (x7.length : Int) then (if (rd x7 x9) ≤ x3 then (some false) else (if (rd x7 x9) ≥ 62 then (some false) else (super_right.l0 k (rd x7 x9) x7 x8 (wrap64 (x9 + 1)) x106000 x106001 x106002))) else (none)) else (none)) else (if x106000 ≥ 1 then (if x106000 ≤ 4611686018427387903 then ((key_Check.f x106001).bind fun t107 => (some t107)) else (some false)) else (some false))
def super_right.f (k : Nat) (a0_0 : Int) (a0_1 : ByteArray) (l0_2 : List Int) : Option (Bool) := super_right.l0 k (-1) l0_2 (l0_2.length : Int) 0 a0_0 a0_1 l0_2
theorem super_right.mono_l : ∀ k, (∀ y0 y1 y2 y3 y4 y5 y6, LeO (super_right.l0 k y0 y1 y2 y3 y4 y5 y6) (super_right.l0 (k + 1) y0 y1 y2 y3 y4 y5 y6))
  | 0 => fun _ _ _ _ _ _ _ r h => by simp [super_right.l0] at h
  | k + 1 => by
    have ih0 := super_right.mono_l k
    · intro y0 y1 y2 y3 y4 y5 y6
      unfold super_right.l0
      repeat' first
      | (with_reducible exact ih0 _ _ _ _ _ _ _)
      | (with_reducible exact LeO.refl _)
      | (with_reducible exact LeO.none _)
      | (with_reducible refine LeO.ite ?_ ?_)
      | (with_reducible refine LeO.bind ?_ (fun _ => ?_))
      | exact ih0 _ _ _ _ _ _ _
      | exact LeO.none _
      | refine LeO.ite ?_ ?_
      | refine LeO.bind ?_ (fun _ => ?_)
theorem super_right.mono : ∀ a0 a1 a2 k, LeO (super_right.f k a0 a1 a2) (super_right.f (k + 1) a0 a1 a2) := by
 intro a0 a1 a2 k; have ih0 := super_right.mono_l k; unfold super_right.f
 repeat' first
     | (with_reducible exact ih0 _ _ _ _ _ _ _)
     | (with_reducible exact LeO.refl _)
     | (with_reducible exact LeO.none _)
     | (with_reducible refine LeO.ite ?_ ?_)
     | (with_reducible refine LeO.bind ?_ (fun _ => ?_))
     | exact ih0 _ _ _ _ _ _ _
     | exact LeO.none _
     | refine LeO.ite ?_ ?_
     | refine LeO.bind ?_ (fun _ => ?_)
theorem super_right.calls (k : Nat) (a0_0 : Int) (a0_1 : ByteArray) (A0_2 : Option Addr) (c0_2 : Nat) (l0_2 : List Int) (r : Bool) (w : World) (hr0_2 : Kd.C (Kd.int .i64) w A0_2 l0_2.length l0_2) (hc0_2 : l0_2.length ≤ c0_2) (h : super_right.f k a0_0 a0_1 l0_2 = some r) :
    Calls Tryd.prog 19 #[.agg #[.int .i64 a0_0, .string a0_1, .slice A0_2 l0_2.length c0_2]] w fun e w' => e = .returned (.bool r) ∧ Below w.heap.size w w' := by
 have hu25 := Tryd.underlying25; have HR0_2 := aM_ hr0_2; have HC0_2 := aM_ hc0_2; clear hr0_2 hc0_2; have HB := aM_ (Below.refl w.heap.size w); have H : (super_right.l0 k (-1) l0_2 (l0_2.length : Int) 0 a0_0 a0_1 l0_2) = some r := h; clear h; have H' := aM_ H; clear H; (go_enter Tryd.func19, Tryd.ntmps19)
 go_wp2_with (first | ((with_reducible refine gate_dst (N := 1) rfl ?_); refine box_event ?hg (N := 1) ?hd (cs := #[.int .i64 a0_0, .string a0_1, .slice A0_2 l0_2.length c0_2]) (t := 25) ?hr ?_; (case hd => rfl); (case hg => rfl); (case hr => first | (go_simp; done) | (go_simp; rfl)); intro gb105 hg w2 hbox hb; have n0_ := aM_ (bT_ (bZ0_ HB.out) hb); have n1_ := aM_ (hbox); have n2_ := aM_ ((by rw [hg]; exact (bZ_ (bZ0_ HB.out)) : w.heap.size ≤ gb105)); have n3_ := aM_ ((by rw [hg]; exact (bZ_ (bZ0_ HB.out)) : w.heap.size ≤ gb105)); clear HB; have HB := n0_; have BK105 := n1_; have GW105 := n2_; have GE105 := n3_; clear n0_ n1_ n2_ n3_; clear hb hbox hg; have hcz3_0 := kc0_ BK105.out; have hcz3_1 := kc1_ BK105.out; have hcz3_2 := kc2_ BK105.out; have hfz3_0 := kF_ BK105.out 0; have hfz3_1 := kF_ BK105.out 1; have hfz3_2 := kF_ BK105.out 2))
 (go_loopg [3, 9] k (fun kq v3 v9 w' => ∃ (x3_1 : Int) (x9_1 : Int), v3 = .int .i64 x3_1 ∧ v9 = .int .i64 x9_1 ∧ Aside0 (super_right.l0 kq x3_1 l0_2 (l0_2.length : Int) x9_1 a0_0 a0_1 l0_2 = some r) ∧ Aside0 (kq ≤ k) ∧ Aside0 (w'.heap[gb105]? = some (.cells #[.int .i64 a0_0, .string a0_1, (.slice A0_2 l0_2.length c0_2)] 25 (0, 0))) ∧ Aside0 (Below w.heap.size w w')))
 case atStart => exact ⟨((-1)), (0), (by first | rfl | (simp; done) | (simp [*]; done)), (by first | rfl | (simp; done) | (simp [*]; done)), H', ⟨Nat.le_refl _⟩, ⟨kZ_ BK105.out⟩, ⟨bZ1_ HB.out GE105.out⟩⟩
 case round =>
  clear H'; (try clear c1); (try clear p2); (try clear hcz3_0); (try clear hcz3_1); (try clear hcz3_2); (try clear hfz3_0); (try clear hfz3_1); (try clear hfz3_2); obtain ⟨x3_1, x9_1, rfl, rfl, HA, HK1, BK105, HB⟩ := hrel
  cases gk with
  | zero => exact absurd HA.out (by simp [super_right.l0])
  | succ k1 =>
   have H := HA.out; clear HA; simp only [super_right.l0] at H; (by_cases c4 : x9_1 < (l0_2.length : Int))
   · rw [if_pos c4] at H
     have c4b0 : decide (x9_1 < (l0_2.length : Int)) = true := dT_ c4; clear c4; (by_cases c5 : 0 ≤ x9_1)
     · rw [if_pos c5] at H
       have c5b0 : decide (0 ≤ x9_1) = true := dT_ c5; clear c5; (by_cases c6 : x9_1 < (l0_2.length : Int))
       · rw [if_pos c6] at H
         have c6b0 : decide (x9_1 < (l0_2.length : Int)) = true := dT_ c6; clear c6; (by_cases c7 : (rd l0_2 x9_1) ≤ x3_1); (· rw [if_pos c7] at H; have c7b0 : decide ((rd l0_2 x9_1) ≤ x3_1) = true := dT_ c7; clear c7; obtain rfl := oJ_ H; simp only [oI_, pI_] at H; obtain ⟨rfl⟩ := H; have p106 : 0 ≤ (x9_1 : Int) := oD_ (by assumption); have q106 : x9_1 < (l0_2.length : Int) := oD_ (by assumption); obtain ⟨ad106, e106, hx106_0⟩ := Kd.at_int HR0_2.out x9_1 p106 q106; (cases e106); replace hx106_0 := (HB.out.cell (lC_ w _ hx106_0)).trans hx106_0; replace p106 := eq_true p106; replace q106 := eq_true q106; go_wp2; go_ret; (exact ⟨by first | rfl | (simp [errW_none, errW_some] <;> rfl) | (simp [*, errW_none, errW_some] <;> rfl), by exact bZ1_ HB.out GE105.out⟩))
         · rw [if_neg c7] at H
           have c7b0 : decide ((rd l0_2 x9_1) ≤ x3_1) = false := decide_eq_false c7; clear c7; (by_cases c8 : (rd l0_2 x9_1) ≥ 62); (· rw [if_pos c8] at H; have c8b0 : decide (62 ≤ (rd l0_2 x9_1)) = true := dT_ c8; clear c8; obtain rfl := oJ_ H; simp only [oI_, pI_] at H; obtain ⟨rfl⟩ := H; have p106 : 0 ≤ (x9_1 : Int) := oD_ (by assumption); have q106 : x9_1 < (l0_2.length : Int) := oD_ (by assumption); obtain ⟨ad106, e106, hx106_0⟩ := Kd.at_int HR0_2.out x9_1 p106 q106; (cases e106); replace hx106_0 := (HB.out.cell (lC_ w _ hx106_0)).trans hx106_0; replace p106 := eq_true p106; replace q106 := eq_true q106; go_wp2; go_ret; (exact ⟨by first | rfl | (simp [errW_none, errW_some] <;> rfl) | (simp [*, errW_none, errW_some] <;> rfl), by exact bZ1_ HB.out GE105.out⟩))
           · rw [if_neg c8] at H
             have c8b0 : decide (62 ≤ (rd l0_2 x9_1)) = false := decide_eq_false c8; clear c8; have H' := aM_ H; clear H; have p106 : 0 ≤ (x9_1 : Int) := oD_ (by assumption); have q106 : x9_1 < (l0_2.length : Int) := oD_ (by assumption); obtain ⟨ad106, e106, hx106_0⟩ := Kd.at_int HR0_2.out x9_1 p106 q106; (cases e106); replace hx106_0 := (HB.out.cell (lC_ w _ hx106_0)).trans hx106_0; replace p106 := eq_true p106; replace q106 := eq_true q106; go_wp2; (go_roundg k1)
             case measure => have := HK1.out; omega
             case rel => exact ⟨(rd l0_2 x9_1), (wrap64 (x9_1 + 1)), (by first | rfl | (simp; done) | (simp [*]; done)), (by first | rfl | (simp; done) | (simp [*]; done)), H', ⟨by have := HK1.out; omega⟩, ⟨kZ_ BK105.out⟩, ⟨bZ1_ HB.out GE105.out⟩⟩
       (· rw [if_neg c6] at H; exact absurd H (by simp))
     (· rw [if_neg c5] at H; exact absurd H (by simp))
   · rw [if_neg c4] at H
     have c4b0 : decide (x9_1 < (l0_2.length : Int)) = false := decide_eq_false c4; clear c4; (by_cases c9 : a0_0 ≥ 1); (· rw [if_pos c9] at H; have c9b0 : decide (1 ≤ a0_0) = true := dT_ c9; clear c9; (by_cases c10 : a0_0 ≤ 4611686018427387903); (· rw [if_pos c10] at H; have c10b0 : decide (a0_0 ≤ 4611686018427387903) = true := dT_ c10; clear c10; replace H := Option.bind_eq_some_iff.mp H; obtain ⟨t107, A110, H⟩ := H; replace H : (some t107) = some r := H; have A11 := aM_ A110; clear A110; obtain rfl := oJ_ H; simp only [oI_, pI_] at H; obtain ⟨rfl⟩ := H; have hcz12_0 := kc0_ BK105.out; have hcz12_1 := kc1_ BK105.out; have hcz12_2 := kc2_ BK105.out; have hfz12_0 := kF_ BK105.out 0; have hfz12_1 := kF_ BK105.out 1; have hfz12_2 := kF_ BK105.out 2; (go_wp2_with (first | (go_at_call 34; (with_reducible refine (key_Check.calls a0_1 t107 _ A11.out).mono ?_); rintro e w13 ⟨rfl, hb⟩; have n0_ := aM_ (kB_ (g := gb105) (o := .cells #[.int .i64 a0_0, .string a0_1, .slice A0_2 l0_2.length c0_2] 25 (0, 0)) (kZ_ BK105.out) hb); have n1_ := aM_ (bT_ (bZ1_ HB.out GE105.out) hb); clear BK105; clear HB; have BK105 := n0_; have HB := n1_; clear n0_ n1_; (try clear hb); (try clear hb2); (try clear hk); (try clear hi)))); go_ret; (exact ⟨by first | rfl | (simp [errW_none, errW_some] <;> rfl) | (simp [*, errW_none, errW_some] <;> rfl), by exact bZ1_ HB.out GE105.out⟩)); (· rw [if_neg c10] at H; have c10b0 : decide (a0_0 ≤ 4611686018427387903) = false := decide_eq_false c10; clear c10; obtain rfl := oJ_ H; simp only [oI_, pI_] at H; obtain ⟨rfl⟩ := H; have hcz14_0 := kc0_ BK105.out; have hcz14_1 := kc1_ BK105.out; have hcz14_2 := kc2_ BK105.out; have hfz14_0 := kF_ BK105.out 0; have hfz14_1 := kF_ BK105.out 1; have hfz14_2 := kF_ BK105.out 2; go_wp2; go_ret; (exact ⟨by first | rfl | (simp [errW_none, errW_some] <;> rfl) | (simp [*, errW_none, errW_some] <;> rfl), by exact bZ1_ HB.out GE105.out⟩)))
     (· rw [if_neg c9] at H; have c9b0 : decide (1 ≤ a0_0) = false := decide_eq_false c9; clear c9; obtain rfl := oJ_ H; simp only [oI_, pI_] at H; obtain ⟨rfl⟩ := H; have hcz15_0 := kc0_ BK105.out; have hcz15_1 := kc1_ BK105.out; have hcz15_2 := kc2_ BK105.out; have hfz15_0 := kF_ BK105.out 0; have hfz15_1 := kF_ BK105.out 1; have hfz15_2 := kF_ BK105.out 2; go_wp2; go_ret; (exact ⟨by first | rfl | (simp [errW_none, errW_some] <;> rfl) | (simp [*, errW_none, errW_some] <;> rfl), by exact bZ1_ HB.out GE105.out⟩))
mutual
def crc_More.l0 : Nat → Int → List Int → Int → Int → Option (Int)
  | 0, _, _, _, _ => none
  | k + 1, x5, x10, x11, x12 => if x12 < x11 then (if 0 ≤ x12 then (if x12 < (x10.length : Int) then (crc_More.l1 k (Go.bits .xor .u32 x5 ((rd x10 x12) % 4294967296)) x10 x11 x12 0) else (none)) else (none)) else (some (Go.bits .xor .u32 4294967295 x5))
def crc_More.l1 : Nat → Int → List Int → Int → Int → Int → Option (Int)
  | 0, _, _, _, _, _ => none
  | k + 1, x5, x10, x11, x12, x20 => if x20 < 8 then (crc_More.l1 k (Go.bits .xor .u32 (x5 / 2) (Go.bits .and .u32 3988292384 ((-(Go.bits .and .u32 x5 1)) % 4294967296))) x10 x11 x12 (wrap64 (x20 + 1))) else (crc_More.l0 k x5 x10 x11 (wrap64 (x12 + 1)))
end
def crc_More.f (k : Nat) (a0 : Int) (l1 : List Int) : Option (Int) := crc_More.l0 k (Go.bits .xor .u32 4294967295 a0) l1 (l1.length : Int) 0
theorem crc_More.mono_l : ∀ k, (∀ y0 y1 y2 y3, LeO (crc_More.l0 k y0 y1 y2 y3) (crc_More.l0 (k + 1) y0 y1 y2 y3)) ∧ (∀ y0 y1 y2 y3 y4, LeO (crc_More.l1 k y0 y1 y2 y3 y4) (crc_More.l1 (k + 1) y0 y1 y2 y3 y4))
  | 0 => ⟨fun _ _ _ _ r h => by simp [crc_More.l0] at h, fun _ _ _ _ _ r h => by simp [crc_More.l1] at h⟩
  | k + 1 => by
    obtain ⟨ih0, ih1⟩ := crc_More.mono_l k
    refine ⟨?_, ?_⟩
    · intro y0 y1 y2 y3
      unfold crc_More.l0
      repeat' first
      | (with_reducible exact ih0 _ _ _ _)
      | (with_reducible exact ih1 _ _ _ _ _)
      | (with_reducible exact LeO.refl _)
      | (with_reducible exact LeO.none _)
      | (with_reducible refine LeO.ite ?_ ?_)
      | (with_reducible refine LeO.bind ?_ (fun _ => ?_))
      | exact ih0 _ _ _ _
      | exact ih1 _ _ _ _ _
      | exact LeO.none _
      | refine LeO.ite ?_ ?_
      | refine LeO.bind ?_ (fun _ => ?_)
    · intro y0 y1 y2 y3 y4
      unfold crc_More.l1
      repeat' first
      | (with_reducible exact ih0 _ _ _ _)
      | (with_reducible exact ih1 _ _ _ _ _)
      | (with_reducible exact LeO.refl _)
      | (with_reducible exact LeO.none _)
      | (with_reducible refine LeO.ite ?_ ?_)
      | (with_reducible refine LeO.bind ?_ (fun _ => ?_))
      | exact ih0 _ _ _ _
      | exact ih1 _ _ _ _ _
      | exact LeO.none _
      | refine LeO.ite ?_ ?_
      | refine LeO.bind ?_ (fun _ => ?_)
theorem crc_More.mono : ∀ a0 a1 k, LeO (crc_More.f k a0 a1) (crc_More.f (k + 1) a0 a1) := by
 intro a0 a1 k; obtain ⟨ih0, ih1⟩ := crc_More.mono_l k; unfold crc_More.f
 repeat' first
     | (with_reducible exact ih0 _ _ _ _)
     | (with_reducible exact ih1 _ _ _ _ _)
     | (with_reducible exact LeO.refl _)
     | (with_reducible exact LeO.none _)
     | (with_reducible refine LeO.ite ?_ ?_)
     | (with_reducible refine LeO.bind ?_ (fun _ => ?_))
     | exact ih0 _ _ _ _
     | exact ih1 _ _ _ _ _
     | exact LeO.none _
     | refine LeO.ite ?_ ?_
     | refine LeO.bind ?_ (fun _ => ?_)
theorem crc_More.calls (k : Nat) (a0 : Int) (A1 : Option Addr) (c1 : Nat) (l1 : List Int) (r : Int) (w : World) (hr1 : Kd.C (Kd.int .u8) w A1 l1.length l1) (hc1 : l1.length ≤ c1) (h : crc_More.f k a0 l1 = some r) :
    Calls Tryd.prog 56 #[.int .u32 a0, .slice A1 l1.length c1] w fun e w' => e = .returned (.int .u32 r) ∧ Drawn0 w w' := by
 have HR1 := aM_ hr1; have HC1 := aM_ hc1; clear hr1 hc1; have H : (crc_More.l0 k (Go.bits .xor .u32 4294967295 a0) l1 (l1.length : Int) 0) = some r := h; clear h; have H' := aM_ H; clear H; (go_enter Tryd.func56, Tryd.ntmps56); go_wp2; (go_loopg [5, 12] k (fun kq v5 v12 w' => ∃ (x5_1 : Int) (x12_1 : Int), v5 = .int .u32 x5_1 ∧ v12 = .int .i64 x12_1 ∧ Aside0 (crc_More.l0 kq x5_1 l1 (l1.length : Int) x12_1 = some r) ∧ Aside0 (kq ≤ k) ∧ Drawn0 w w'))
 case atStart => exact ⟨(Go.bits .xor .u32 4294967295 a0), (0), (by first | rfl | (simp; done) | (simp [*]; done)), (by first | rfl | (simp; done) | (simp [*]; done)), H', ⟨Nat.le_refl _⟩, by repeat (first | exact Drawn0.refl _ | apply Drawn0.step)⟩
 case round =>
  clear H'; (try clear c1); (try clear p2); obtain ⟨x5_1, x12_1, rfl, rfl, HA, HK1, ⟨m1, rfl⟩⟩ := hrel
  cases gk with
  | zero => exact absurd HA.out (by simp [crc_More.l0])
  | succ k1 =>
   have H := HA.out; clear HA; simp only [crc_More.l0] at H; (by_cases c3 : x12_1 < (l1.length : Int))
   · rw [if_pos c3] at H
     have c3b0 : decide (x12_1 < (l1.length : Int)) = true := dT_ c3; clear c3; (by_cases c4 : 0 ≤ x12_1)
     · rw [if_pos c4] at H
       have c4b0 : decide (0 ≤ x12_1) = true := dT_ c4; clear c4; (by_cases c5 : x12_1 < (l1.length : Int))
       · rw [if_pos c5] at H
         have c5b0 : decide (x12_1 < (l1.length : Int)) = true := dT_ c5; clear c5; have H' := aM_ H; clear H; have p108 : 0 ≤ (x12_1 : Int) := oD_ (by assumption); have q108 : x12_1 < (l1.length : Int) := oD_ (by assumption); obtain ⟨ad108, e108, hx108_0⟩ := Kd.at_int HR1.out x12_1 p108 q108; (cases e108); replace p108 := eq_true p108; replace q108 := eq_true q108; go_wp2; (go_loopg [5, 20] k1 (fun kq v5 v20 w' => ∃ (x5_2 : Int) (x20_2 : Int), v5 = .int .u32 x5_2 ∧ v20 = .int .i64 x20_2 ∧ Aside0 (crc_More.l1 kq x5_2 l1 (l1.length : Int) x12_1 x20_2 = some r) ∧ Aside0 (kq ≤ k1) ∧ Drawn0 w w'))
         case atStart => exact ⟨(Go.bits .xor .u32 x5_1 ((rd l1 x12_1) % 4294967296)), (0), (by first | rfl | (simp; done) | (simp [*]; done)), (by first | rfl | (simp; done) | (simp [*]; done)), H', ⟨Nat.le_refl _⟩, by repeat (first | exact Drawn0.refl _ | apply Drawn0.step)⟩
         case round =>
          clear H'; (try clear c1); (try clear p1); (try clear q1); (try clear hx1); (try clear p2); (try clear c3); (try clear c3b0); (try clear c4); (try clear c4b0); (try clear c5); (try clear c5b0); (try clear hx108_0); (try clear p108); (try clear p2); (try clear q108); obtain ⟨x5_2, x20_2, rfl, rfl, HA, HK2, ⟨m2, rfl⟩⟩ := hrel
          cases gk with
          | zero => exact absurd HA.out (by simp [crc_More.l1])
          | succ k2 =>
           have H := HA.out; clear HA; simp only [crc_More.l1] at H; (by_cases c6 : x20_2 < 8)
           · rw [if_pos c6] at H
             have c6b0 : decide (x20_2 < 8) = true := dT_ c6; clear c6; have H' := aM_ H; clear H; go_wp2; (go_roundg k2)
             case measure => have := HK1.out; have := HK2.out; omega
             case rel => exact ⟨(Go.bits .xor .u32 (x5_2 / 2) (Go.bits .and .u32 3988292384 ((-(Go.bits .and .u32 x5_2 1)) % 4294967296))), (wrap64 (x20_2 + 1)), (by first | rfl | (simp; done) | (simp [*]; done)), (by first | rfl | (simp; done) | (simp [*]; done)), H', ⟨by have := HK1.out; have := HK2.out; omega⟩, by repeat (first | exact Drawn0.refl _ | apply Drawn0.step)⟩
           · rw [if_neg c6] at H
             have c6b0 : decide (x20_2 < 8) = false := decide_eq_false c6; clear c6; have H' := aM_ H; clear H; go_wp2; (go_roundg k2)
             case measure => have := HK1.out; have := HK2.out; omega
             case rel => exact ⟨(x5_2), (wrap64 (x12_1 + 1)), (by first | rfl | (simp; done) | (simp [*]; done)), (by first | rfl | (simp; done) | (simp [*]; done)), H', ⟨by have := HK1.out; have := HK2.out; omega⟩, by repeat (first | exact Drawn0.refl _ | apply Drawn0.step)⟩
       (· rw [if_neg c5] at H; exact absurd H (by simp))
     (· rw [if_neg c4] at H; exact absurd H (by simp))
   (· rw [if_neg c3] at H; have c3b0 : decide (x12_1 < (l1.length : Int)) = false := decide_eq_false c3; clear c3; obtain rfl := oJ_ H; simp only [oI_, pI_] at H; obtain ⟨rfl⟩ := H; go_wp2; go_ret; exact ⟨by first | rfl | (simp; done) | (simp [*]; done), by repeat (first | exact Drawn0.refl _ | apply Drawn0.step)⟩)
def crc_Sum.f (k : Nat) (l0 : List Int) : Option (Int) := (crc_More.f k 0 l0).bind fun t109 => (some t109)
theorem crc_Sum.mono : ∀ a0 k, LeO (crc_Sum.f k a0) (crc_Sum.f (k + 1) a0) := by
 intro a0 k; unfold crc_Sum.f
 repeat' first
     | (with_reducible exact crc_More.mono _ _ _)
     | (with_reducible exact LeO.refl _)
     | (with_reducible exact LeO.none _)
     | (with_reducible refine LeO.ite ?_ ?_)
     | (with_reducible refine LeO.bind ?_ (fun _ => ?_))
     | exact LeO.none _
     | refine LeO.ite ?_ ?_
     | refine LeO.bind ?_ (fun _ => ?_)
theorem crc_Sum.calls (k : Nat) (A0 : Option Addr) (c0 : Nat) (l0 : List Int) (r : Int) (w : World) (hr0 : Kd.C (Kd.int .u8) w A0 l0.length l0) (hc0 : l0.length ≤ c0) (h : crc_Sum.f k l0 = some r) :
    Calls Tryd.prog 37 #[.slice A0 l0.length c0] w fun e w' => e = .returned (.int .u32 r) ∧ Drawn0 w w' := by
 have HR0 := aM_ hr0; have HC0 := aM_ hc0; clear hr0 hc0; have H : ((crc_More.f k 0 l0).bind fun t109 => (some t109)) = some r := h; clear h; replace H := Option.bind_eq_some_iff.mp H; obtain ⟨t109, A20, H⟩ := H; replace H : (some t109) = some r := H; have A2 := aM_ A20; clear A20; obtain rfl := oJ_ H; simp only [oI_, pI_] at H; obtain ⟨rfl⟩ := H; (go_enter Tryd.func37, Tryd.ntmps37); (go_wp2_with (first | ((with_reducible refine gate_callee (f := 56) rfl ?_); refine goesL_ (some 4) rfl rfl Tryd.func56 (by kernel_rfl) rfl #[.int .u32 0, .slice A0 l0.length c0] rfl (by (try simp only [mA_, mC_, mN_]); first | done | rfl | (simp only [lD_, lT_]; rfl)) ?_; (with_reducible refine (crc_More.calls k 0 _ _ l0 t109 _ ?side1 ?side2 A2.out).mono ?_); (case side1 => repeat (first | exact HR0.out | (with_reducible refine Kd.C_alloc ?_ _) | (with_reducible refine Kd.C_drewN ?_ _) | (with_reducible refine Kd.C_drew ?_))); (case side2 => exact HC0.out); rintro e w' ⟨rfl, ⟨nd, rfl⟩⟩; refine ⟨_, rfl, ?_⟩))); go_ret; exact ⟨by first | rfl | (simp; done) | (simp [*]; done), by repeat (first | exact Drawn0.refl _ | apply Drawn0.step)⟩
end Go.Proofs.YtfffnogmkbbfkaaDoor.Fn
