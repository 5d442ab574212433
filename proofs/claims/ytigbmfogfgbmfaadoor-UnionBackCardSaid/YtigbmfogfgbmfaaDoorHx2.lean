import Derived.Test.YtigbmfogfgbmfaaDoorHx0
import Derived.Test.YtigbmfogfgbmfaaDoorHx1
namespace Go.Proofs.YtigbmfogfgbmfaaDoor.Fn
set_option maxHeartbeats 8000000
set_option maxRecDepth 100000
open Go.RowKit Go.Proofs.YtigbmfogfgbmfaaDoorW.PrintWords Go.Proofs.YtigbmfogfgbmfaaDoorW.PrintLast Go.Proofs.YtigbmfogfgbmfaaDoorW.PrintMore
attribute [local go_sem] max2_int min2_int max_two min_two max_three min_three max_four min_four
set_option linter.unusedVariables false
set_option linter.unusedSimpArgs false
section
open Go.Lib
set_option maxHeartbeats 2000000 in
theorem strings_set_contains (b : Nat) (x : UInt8) (v : Bool) (w : World) (hc : w.cell? ⟨b, x.toNat, none⟩ = some (.bool v)) :
    Calls Tryd.prog 79 #[.pointer (some ⟨b, 0, none⟩), .int .u8 x.toNat] w fun e w' => e = .returned (.bool v) ∧ w' = w := by
 (have hx256 : (x.toNat : Int) < 256 := by have := UInt8.toNat_lt x; omega); (go_enter Tryd.func79, Tryd.ntmps79); go_wp2; go_ret; exact ⟨rfl, rfl⟩
set_option maxHeartbeats 4000000 in
set_option maxRecDepth 1000000 in
theorem strings_trimLeftASCII (s : ByteArray) (b : Nat) (cs : List UInt8) (w : World) (hset : ∀ x : UInt8, w.cell? ⟨b, x.toNat, none⟩ = some (.bool (cs.contains x))) :
    Calls Tryd.prog 64 #[.string s, .pointer (some ⟨b, 0, none⟩)] w fun e w' => e = .returned (.string ⟨(Lib.trimLeftS s.data.toList cs).toArray⟩) ∧ w' = w := by
 have HS := aM_ hset; clear hset; (go_enter Tryd.func64, Tryd.ntmps64); go_wp2; (go_loop [0] (fun v => ∃ k : Nat, k ≤ s.size ∧ v = .string ⟨(s.data.toList.drop k).toArray⟩ ∧ ∀ (j : Nat) b, j < k → s.data.toList[j]? = some b → cs.contains b = true) (fun v => Lib.strSize v))
 case atStart => exact ⟨0, Nat.zero_le _, by simp, fun j b hj => absurd hj (Nat.not_lt_zero _)⟩
 case round =>
  obtain ⟨k, hk, rfl, hc⟩ := hrel; (have hts : (⟨(s.data.toList.drop k).toArray⟩ : ByteArray).size = s.size - k := by rw [Lib.size_mk, lD_, ← Lib.size_eq])
  have hb0 : ∀ h, s.data.toList[k]? = some ((⟨(s.data.toList.drop k).toArray⟩ : ByteArray)[0]'h) := by
   intro h; rw [← Lib.getElem_mk (s.data.toList.drop k) 0 h, List.getElem?_drop]; rfl
  have hx1 : (⟨(s.data.toList.drop k).toArray⟩ : ByteArray).extract 1 (s.size - k) = ⟨(s.data.toList.drop (k + 1)).toArray⟩ := by
   rw [Lib.extract_mk, List.drop_drop, List.take_of_length_le (by simp; omega)]
  have hK : Lib.Kept (∀ (j : Nat) b, j < k → s.data.toList[j]? = some b → cs.contains b = true) := hc; clear hc; generalize ht : (⟨(s.data.toList.drop k).toArray⟩ : ByteArray) = t at hts hb0 hx1 ⊢; have hK3 : Lib.Kept ((⟨(s.data.toList.drop k).toArray⟩ : ByteArray) = t) := ht; clear ht; (have hkl : Lib.Kept (k ≤ s.data.toList.length) := by rw [← Lib.size_eq]; exact hk); (by_cases h0 : 0 < t.size)
  · have hbk := hb0 h0
    clear hb0; have hK2 : Lib.Kept (s.data.toList[k]? = some (t[0]'h0)) := hbk; clear hbk; have hcx := HS.out (t[0]'h0); (cases hin : cs.contains (t[0]'h0) <;> rw [hin] at hcx)
    · have HI : Lib.Kept (cs.contains (t[0]'h0) = false) := hin
      clear hin; (go_wp2_with (go_at_call 79; refine (strings_set_contains _ (t[0]'h0) _ _ hcx).mono ?_; rintro e w' ⟨rfl, hw⟩; rw [hw])); go_ret; refine ⟨?_, rfl⟩; have ht' : (⟨(s.data.toList.drop k).toArray⟩ : ByteArray) = t := hK3; show Ending.returned (Value.string t) = _
      rw [Lib.trimLeftS_drop s.data.toList cs k hkl hK (fun b hb => by
       have h2 : s.data.toList[k]? = some (t[0]'h0) := hK2; rw [h2] at hb; rw [← oJ_ hb]
       exact HI), ht']
    (· have HI : Lib.Kept (cs.contains (t[0]'h0) = true) := hin; clear hin; (go_wp2_with (go_at_call 79; refine (strings_set_contains _ (t[0]'h0) _ _ hcx).mono ?_; rintro e w' ⟨rfl, hw⟩; rw [hw])); refine ⟨⟨k + 1, by omega, rfl, fun j b hj hb => ?_⟩, ?_⟩; (· (by_cases e : j = k); (· subst e; have h2 : s.data.toList[j]? = some (t[0]'h0) := hK2; (have h3 : s.data.toList[j]? = some b := by simpa using hb); rw [h2] at h3; rw [← oJ_ h3]; exact HI); (· exact hK j b (by omega) (by simpa using hb))); (· rw [Lib.strSize_string, Lib.strSize_string, Lib.size_mk, lD_, ← Lib.size_eq]; omega))
  · clear hb0
    go_wp2; go_ret; refine ⟨?_, rfl⟩; have ht' : (⟨(s.data.toList.drop k).toArray⟩ : ByteArray) = t := hK3; show Ending.returned (Value.string t) = _
    rw [Lib.trimLeftS_drop s.data.toList cs k hkl hK (fun b hb => by
     (have : s.data.toList.length ≤ k := by rw [← Lib.size_eq]; omega)
     simp [List.getElem?_eq_none this] at hb), ht']
set_option maxHeartbeats 4000000 in
set_option maxRecDepth 1000000 in
theorem strings_trimRightASCII (s : ByteArray) (b : Nat) (cs : List UInt8) (w : World) (hs : s.size ≤ 9223372036854775807) (hset : ∀ x : UInt8, w.cell? ⟨b, x.toNat, none⟩ = some (.bool (cs.contains x))) :
    Calls Tryd.prog 65 #[.string s, .pointer (some ⟨b, 0, none⟩)] w fun e w' => e = .returned (.string ⟨(Lib.trimRightS s.data.toList cs).toArray⟩) ∧ w' = w := by
 have HS := aM_ hset; clear hset; (go_enter Tryd.func65, Tryd.ntmps65); go_wp2; (go_loop [0] (fun v => ∃ k : Nat, k ≤ s.size ∧ v = .string ⟨(s.data.toList.take k).toArray⟩ ∧ ∀ (j : Nat) b, k ≤ j → s.data.toList[j]? = some b → cs.contains b = true) (fun v => Lib.strSize v))
 case atStart =>
  refine ⟨s.size, Nat.le_refl _, ?_, fun j b hj hb => ?_⟩; (· rw [Lib.size_eq, List.take_length, Lib.mk_data]); (· (have : s.data.toList.length ≤ j := by rw [← Lib.size_eq]; exact hj); simp [List.getElem?_eq_none this] at hb)
 case round =>
  obtain ⟨k, hk, rfl, hc⟩ := hrel; (have hkl : k ≤ s.data.toList.length := by rw [← Lib.size_eq]; exact hk); (have hts : (⟨(s.data.toList.take k).toArray⟩ : ByteArray).size = k := by rw [Lib.size_mk, lT_]; omega)
  have hb0 : ∀ h, s.data.toList[k - 1]? = some ((⟨(s.data.toList.take k).toArray⟩ : ByteArray)[k - 1]'h) := by
   intro h; rw [← Lib.getElem_mk (s.data.toList.take k) (k - 1) h, List.getElem?_take]; rw [hts] at h; rw [if_pos h]
  have hx1 : (⟨(s.data.toList.take k).toArray⟩ : ByteArray).extract 0 (k - 1) = ⟨(s.data.toList.take (k - 1)).toArray⟩ := by
   rw [Lib.extract_mk, List.drop_zero, List.take_take]
   congr 3
   omega
  have hK : Lib.Kept (∀ (j : Nat) b, k ≤ j → s.data.toList[j]? = some b → cs.contains b = true) := hc; clear hc; have hkl' : Lib.Kept (k ≤ s.data.toList.length) := hkl; clear hkl; generalize ht : (⟨(s.data.toList.take k).toArray⟩ : ByteArray) = t at hts hb0 hx1 ⊢; have hK3 : Lib.Kept ((⟨(s.data.toList.take k).toArray⟩ : ByteArray) = t) := ht; clear ht; (by_cases h0 : 0 < k)
  · have h1 : k - 1 < t.size := by omega
    (have hwr : ((k : Int) - 1 + 9223372036854775808) % 18446744073709551616 - 9223372036854775808 = ((k - 1 : Nat) : Int) := by omega); have hbk := hb0 h1; clear hb0; have hK2 : Lib.Kept (s.data.toList[k - 1]? = some (t[k - 1]'h1)) := hbk; clear hbk; have hcx := HS.out (t[k - 1]'h1); (cases hin : cs.contains (t[k - 1]'h1) <;> rw [hin] at hcx)
    · have HI : Lib.Kept (cs.contains (t[k - 1]'h1) = false) := hin
      clear hin; (go_wp2_with (go_at_call 79; refine (strings_set_contains _ (t[k - 1]'h1) _ _ hcx).mono ?_; rintro e w' ⟨rfl, hw⟩; rw [hw])); go_ret; refine ⟨?_, rfl⟩; have ht' : (⟨(s.data.toList.take k).toArray⟩ : ByteArray) = t := hK3; show Ending.returned (Value.string t) = _
      rw [Lib.trimRightS_take s.data.toList cs k hkl' hK (fun b _ hb => by
       have h2 : s.data.toList[k - 1]? = some (t[k - 1]'h1) := hK2; rw [h2] at hb; rw [← oJ_ hb]
       exact HI), ht']
    (· have HI : Lib.Kept (cs.contains (t[k - 1]'h1) = true) := hin; clear hin; (go_wp2_with (go_at_call 79; refine (strings_set_contains _ (t[k - 1]'h1) _ _ hcx).mono ?_; rintro e w' ⟨rfl, hw⟩; rw [hw])); refine ⟨⟨k - 1, by omega, rfl, fun j b hj hb => ?_⟩, ?_⟩; (· (by_cases e : j = k - 1); (· subst e; have h2 : s.data.toList[k - 1]? = some (t[k - 1]'h1) := hK2; (have h3 : s.data.toList[k - 1]? = some b := by simpa using hb); rw [h2] at h3; rw [← oJ_ h3]; exact HI); (· exact hK j b (by omega) (by simpa using hb))); (· have hkl : k ≤ s.data.toList.length := hkl'; rw [Lib.strSize_string, Lib.strSize_string, Lib.size_mk, lT_]; omega))
  (· clear hb0; go_wp2; go_ret; refine ⟨?_, rfl⟩; have ht' : (⟨(s.data.toList.take k).toArray⟩ : ByteArray) = t := hK3; show Ending.returned (Value.string t) = _; rw [Lib.trimRightS_take s.data.toList cs k hkl' hK (fun b hk0 _ => absurd hk0 h0), ht'])
set_option maxHeartbeats 4000000 in
set_option maxRecDepth 1000000 in
theorem strings_makeASCIISet (chars : ByteArray) (w : World) (hs : chars.size < 4294967281)
    (hascii : ∀ (j : Nat) b, chars.data.toList[j]? = some b → b.toNat < 128) :
    Calls Tryd.prog 63 #[.string chars] w fun e w' => e = .returned (.tuple #[.agg (Lib.setCells chars.data.toList), .bool true]) ∧ w' = w.alloc (.cells (Lib.setCells chars.data.toList) 100) := by
 have HA := aM_ hascii; clear hascii; (have hi116 : (Tryd.prog.info? 100).map (·.size) = some 256 := by kernel_rfl); (go_enter Tryd.func63, Tryd.ntmps63); go_wp2; rw [show Tryd.zeroCells100 = Lib.setCells [] from by kernel_rfl]; (go_loopg [4] chars.size (fun g s4 wx => ∃ i : Nat, i + g = chars.size ∧ s4 = .int .i64 i ∧ wx = w.alloc (.cells (Lib.setCells (chars.data.toList.take i)) 100)))
 case atStart => exact ⟨0, by omega, rfl, rfl⟩
 case round =>
  obtain ⟨i, hig, rfl, rfl⟩ := hrel
  cases gk with
  | zero =>
   (obtain rfl : i = chars.size := by omega); (have hiz : ¬ ((chars.size : Int) < (chars.size : Int)) := by omega); rw [show chars.data.toList.take chars.size = chars.data.toList from List.take_of_length_le (by rw [← Lib.size_eq]; exact Nat.le_refl _)]; have hsz := Lib.setCells_size chars.data.toList; have hld := run_loadVar_new (P := Tryd.prog) w 100 (Lib.setCells chars.data.toList) 256 4 Tryd.underlying100 (by rw [hsz]; exact hi116); have hst := run_storeVar_row (P := Tryd.prog) (w.alloc (.cells (Lib.setCells chars.data.toList) 100)) w.heap.size 100 100 _ (Lib.setCells chars.data.toList) (heap_alloc_last w _) (by rw [hsz]; exact hi116) rfl (Lib.setCells_one _); rw [World.setRow_alloc_new] at hst; have HLD := aM_ hld; have HST := aM_ hst; clear hld hst; (go_upto_region 8 with (fail)); refine wp_region_lit ?_; refine Kd.event_run (v := .agg (Lib.setCells chars.data.toList)) rfl (loadRow_run HLD.out rfl) ?_; refine store_event rfl rfl rfl (storeRow_run HST.out rfl rfl) ?_; intro w18 hw; subst hw; go_wp2; refine bodyPost_ret (v := .tuple #[.agg (Lib.setCells chars.data.toList), .bool true]) ?_ rfl ⟨rfl, rfl⟩; rw [results_cell_tmp rfl]; simp [asAddr, Result.andThen, HLD.out]
  | succ g =>
   (have hi : i < chars.size := by omega); (have hiz : (i : Int) < (chars.size : Int) := by omega); obtain ⟨x, hx⟩ : ∃ x : UInt8, chars[i]'hi = x := ⟨_, rfl⟩; (have hxl : chars.data.toList[i]? = some x := by rw [← hx]; exact Lib.data_getElem? chars i hi); (have hx128 : ¬ ((128 : Int) ≤ (x.toNat : Int)) := by have := HA.out i x hxl; omega); (have hx256 : (x.toNat : Int) < 256 := by have := HA.out i x hxl; omega); have hcell := Lib.setCells_at (chars.data.toList.take i) x; have Hx := aM_ hxl; clear hxl; go_wp2; (go_roundg g)
   case measure => omega
   case rel => exact ⟨i + 1, by omega, by first | rfl | simp, by rw [List.take_add_one, Hx.out]; simp only [Option.toList]; rw [Lib.setCells_snoc]⟩
set_option maxHeartbeats 8000000 in
set_option maxRecDepth 1000000 in
theorem strings_Trim_digs (s : ByteArray) (w : World) (h0 : 0 < s.size) (hs : s.size ≤ 9223372036854775807) :
    Calls Tryd.prog 53 #[.string s, .string ⟨#[48, 49, 50, 51, 52, 53, 54, 55, 56, 57, 97, 98, 99, 100, 101, 102]⟩] w fun e w' => e = .returned (.string ⟨(Lib.trimS s.data.toList digs).toArray⟩) ∧ Below w.heap.size w w' := by
 have hM := aM_ (show Calls Tryd.prog 63 #[.string ⟨#[48, 49, 50, 51, 52, 53, 54, 55, 56, 57, 97, 98, 99, 100, 101, 102]⟩] w fun e w' => e = .returned (.tuple #[.agg (Lib.setCells digs), .bool true]) ∧ w' = w.alloc (.cells (Lib.setCells digs) 100) from strings_makeASCIISet ⟨#[48, 49, 50, 51, 52, 53, 54, 55, 56, 57, 97, 98, 99, 100, 101, 102]⟩ w (by decide) digs_ascii)
 have hemps : s.toList.isEmpty = false := by
  rw [Lib.toList_data]
  cases h : s.data.toList with
  | nil => have := Lib.size_eq s; rw [h, List.length_nil] at this; omega
  | cons _ _ => rfl
 (have hzs : Tryd.zeroCells100.size = 256 := by kernel_rfl); have hss := Lib.setCells_size digs
 have hnew : ∀ (Z : Array Value), ((w.alloc (.cells (Lib.setCells digs) 100)).alloc (.cells Z 100)).heap[w.heap.size + 1]? = some (.cells Z 100 (0, 0)) := fun Z => by
  have := blk_new (w.alloc (.cells (Lib.setCells digs) 100)) (.cells Z 100); rwa [show (w.alloc (.cells (Lib.setCells digs) 100)).heap.size = w.heap.size + 1 by simp] at this
 have HN := aM_ hnew; have HZ := aM_ (show Tryd.zeroCells100.size = (Lib.setCells digs).size by rw [hzs, hss]); have HI := aM_ (show (Tryd.prog.info? 100).map (·.size) = some (Lib.setCells digs).size by rw [hss]; kernel_rfl); have HB : Aside0 (∀ W : World, W.heap.size = w.heap.size + 1 + 1 → Below w.heap.size w W → Below w.heap.size w (W.setRow (w.heap.size + 1) (Lib.setCells digs))) := ⟨fun W hW hb => hb.trans ⟨rfl, rfl, rfl, by simp, fun k hk => setRow_other W (w.heap.size + 1) k _ (by omega)⟩⟩; clear hnew hzs hss; (have hset : ∀ (W : World), (W.heap[w.heap.size + 1]? = some (.cells (Lib.setCells digs) 100 (0, 0))) → ∀ x : UInt8, W.cell? ⟨w.heap.size + 1, x.toNat, none⟩ = some (.bool (digs.contains x)) := fun W hW x => by rw [kC_ hW, Lib.setCells_at]); have HS := aM_ hset; clear hset; (go_enter Tryd.func53, Tryd.ntmps53); (go_wp2_with (first | (go_at_call 63; refine hM.out.mono ?_; rintro e w' ⟨rfl, hw⟩; rw [hw]) | (refine wpList_store_row rfl 100 (.tmp 5) (.tmp 32) rfl (w.heap.size + 1) (Lib.setCells digs) rfl rfl 100 _ (HN.out _) HI.out HZ.out (Lib.setCells_one _) ?_; have hblk := setRow_heap _ _ _ (Lib.setCells digs) _ _ (HN.out Tryd.zeroCells100); have HBK := aM_ hblk; clear hblk; have hbl := HB.out _ (by simp) (((Below.refl _ _).alloc (Nat.le_refl _) (.cells (Lib.setCells digs) 100)).alloc (by simp) (.cells Tryd.zeroCells100 100)); have HBL := aM_ hbl; clear hbl; generalize (((w.alloc (.cells (Lib.setCells digs) 100)).alloc (.cells Tryd.zeroCells100 100)).setRow (w.heap.size + 1) (Lib.setCells digs)) = w5 at HBK HBL ⊢) | (go_at_call 65; refine (strings_trimRightASCII s (w.heap.size + 1) digs _ hs (HS.out _ HBK.out)).mono ?_; rintro e w' ⟨rfl, hw⟩; rw [hw]) | (go_at_call 64; refine (strings_trimLeftASCII _ (w.heap.size + 1) digs _ (HS.out _ HBK.out)).mono ?_; rintro e w' ⟨rfl, hw⟩; rw [hw]))); go_ret; exact ⟨rfl, HBL.out⟩
set_option maxHeartbeats 1000000 in
set_option maxRecDepth 100000 in
theorem stringslite_IndexByte_any (s : ByteArray) (c : Int) (w : World) :
    Calls Tryd.prog 68 #[.string s, .int .u8 c] w fun e w' => e = .returned (.int .i64 (Lib.indexByte s.data.toList c.toNat.toUInt8)) ∧ w' = w := by
 (go_enter Tryd.func68, Tryd.ntmps68); go_wp2; rw [run_callFunc_extern Tryd.func83 (by kernel_rfl) (by kernel_rfl) (by kernel_rfl) (e := Extern.BytealgIndexByte.indexByte) (by kernel_rfl), Lib.run_indexByteString]; simp only [Result.andThen]; rw [Oper.upon_value]; go_wp2; go_ret; exact ⟨rfl, rfl⟩
set_option maxHeartbeats 1000000 in
theorem strings_IndexByte_any (s : ByteArray) (c : Int) (w : World) :
    Calls Tryd.prog 54 #[.string s, .int .u8 c] w fun e w' => e = .returned (.int .i64 (Lib.indexByte s.data.toList c.toNat.toUInt8)) ∧ w' = w := by
 (go_enter Tryd.func54, Tryd.ntmps54); (go_wp2_with (go_at_call 68; refine (stringslite_IndexByte_any s c _).mono ?_; rintro e w' ⟨rfl, rfl⟩)); go_ret; exact ⟨rfl, rfl⟩
def key_Bytes.f (a0 : ByteArray) : Option (List Int × Int) := if isKey a0 then some (keyRow a0, 0) else some ([], 70)
def setIter (W : World) (g : Nat) (s : ByteArray) (pos : Nat) : World := { W with heap := W.heap.setIfInBounds g (.stringIter s pos) }
theorem setIter_other (W : World) (g k : Nat) (s : ByteArray) (pos : Nat) (h : k ≠ g) : (setIter W g s pos).heap[k]? = W.heap[k]? := by
 simp [setIter, Array.getElem?_setIfInBounds_ne (Ne.symm h)]
theorem setIter_same (W : World) (g : Nat) (s : ByteArray) (pos : Nat) (h : g < W.heap.size) : (setIter W g s pos).heap[g]? = some (.stringIter s pos) := by
 simp [setIter, h]
theorem setIter_below {B g : Nat} {w0 W : World} (hb : Below B w0 W) (h : B ≤ g) (s : ByteArray) (pos : Nat) : Below B w0 (setIter W g s pos) :=
  hb.trans ⟨rfl, rfl, rfl, by simp [setIter], fun k hk => setIter_other W g k s pos (by omega)⟩
theorem run_next_at {P : Program} (W : World) (g : Nat) (s : ByteArray) (pos : Nat) (ty : TypeId) (hg : W.heap[g]? = some (.stringIter s pos)) (h : pos < s.size) (ha : (s[pos]'h).toNat < 128) :
    (Instr.next (.pointer (some ⟨g, 0, none⟩)) true ty).run P W = .ok (.tuple #[.bool true, .int .i64 pos, .int .i32 (s[pos]'h).toNat]) (setIter W g s (pos + 1)) := by
 simp only [Instr.next, getObj, setObj, Sem.run_bind, Sem.run, hg, Result.andThen, h, if_true, decode_ascii s pos h ha]; simp [goInt, Sem.run, hg, setIter]
theorem run_next_over {P : Program} (W : World) (g : Nat) (s : ByteArray) (pos : Nat) (ty : TypeId) (hg : W.heap[g]? = some (.stringIter s pos)) (h : ¬ pos < s.size) :
    (Instr.next (.pointer (some ⟨g, 0, none⟩)) true ty).run P W = .ok (.tuple #[.bool false]) W := by
 simp [Instr.next, getObj, Sem.run, hg, h]
theorem key_Bytes_no1 (a0 : ByteArray) (w : World) (h : a0.size ≠ 64) :
    Calls Tryd.prog 46 #[.string a0] w fun e w' => e = .returned (.tuple #[.slice none 0 0, .int .i64 70]) ∧ Below w.heap.size w w' := by
 have hb0 : ((a0.size : Int) == 64) = false := beq_eq_false_iff_ne.mpr (by omega); (have hb : ((a0.size : Int) != 64) = true := by rw [bne, hb0]; rfl); (have h1 : ¬ ((a0.size : Int) = 64) := by omega); (go_enter Tryd.func46, Tryd.ntmps46); go_wp2; (go_ret2); exact ⟨rfl, Below.refl _ _⟩
theorem key_Bytes_no2 (a0 : ByteArray) (w : World) (h : a0.size = 64) (hn : a0.data.toList.all (digs.contains ·) = false) :
    Calls Tryd.prog 46 #[.string a0] w fun e w' => e = .returned (.tuple #[.slice none 0 0, .int .i64 70]) ∧ Below w.heap.size w w' := by
 have hb0 : ((a0.size : Int) == 64) = true := beq_iff_eq.mpr (by omega); (have hb : ((a0.size : Int) != 64) = false := by rw [bne, hb0]; rfl); (have h1 : ((a0.size : Int) = 64) := by omega); have hT := strings_Trim_digs a0 w (by omega) (by omega)
 have he : ∀ t : ByteArray, t = ⟨(Lib.trimS a0.data.toList digs).toArray⟩ → t.toList.isEmpty = false := by
  rintro t rfl; rw [Lib.toList_data]
  cases hc : Lib.trimS a0.data.toList digs with
  | nil => rw [trimS_empty] at hc; rw [hc] at hn; cases hn
  | cons x y => rfl
 generalize (⟨(Lib.trimS a0.data.toList digs).toArray⟩ : ByteArray) = t at hT he; have he2 := he t rfl; (have he3 : (!t.toList.isEmpty) = true := by rw [he2]; rfl); have HT := aM_ hT; clear he hT hn h; (go_enter Tryd.func46, Tryd.ntmps46); (go_wp2_with (go_at_call 53; refine HT.out.mono ?_; rintro e w' ⟨rfl, hb⟩; have HB := aM_ hb; clear hb)); (go_ret2); exact ⟨rfl, HB.out⟩
theorem key_Bytes_yes (a0 : ByteArray) (w : World) (h : a0.size = 64) (hn : a0.data.toList.all (digs.contains ·) = true) :
    Calls Tryd.prog 46 #[.string a0] w fun e w' => ∃ v, e = .returned (.tuple #[v, .int .i64 0]) ∧ Kd.R (Kd.int .u8) 5 w' w.heap.size (fun _ => True) v (keyRow a0) ∧ Below w.heap.size w w' := by
 have hb0 : ((a0.size : Int) == 64) = true := beq_iff_eq.mpr (by omega); (have hb : ((a0.size : Int) != 64) = false := by rw [bne, hb0]; rfl); (have h1 : ((a0.size : Int) = 64) := by omega); have hT := strings_Trim_digs a0 w (by omega) (by omega)
 have he : ∀ t : ByteArray, t = ⟨(Lib.trimS a0.data.toList digs).toArray⟩ → t.toList.isEmpty = true := by
  rintro t rfl; rw [Lib.toList_data, (trimS_empty _ _).2 hn]; rfl
 generalize (⟨(Lib.trimS a0.data.toList digs).toArray⟩ : ByteArray) = t at hT he; have he2 := he t rfl; (have he3 : (!t.toList.isEmpty) = false := by rw [he2]; rfl); have HT := aM_ hT; have HN := aM_ hn; have HS := aM_ h; (have hmk : ∀ (w : World), (Instr.makeSlice 45 (.int .i64 32) (.int .i64 32)).run Tryd.prog w = .ok (.slice (some ⟨w.heap.size, 0, none⟩) 32 32) (w.alloc (.cells ((keyAt a0.data.toList 0).map (Value.int .u8)).toArray 5)) := fun w => by rw [keyAt_zero]; kernel_rfl); clear he hT hn h; (go_enter Tryd.func46, Tryd.ntmps46); (go_wp2_with (go_at_call 53; refine HT.out.mono ?_; rintro e w5 ⟨rfl, hb⟩; have HB := aM_ hb; clear hb)); (go_loopg [5] 64 (fun g v5 wr => ∃ i : Nat, i + g = 64 ∧ Aside0 (wr.heap[w5.heap.size]? = some (.cells ((keyAt a0.data.toList i).map (Value.int .u8)).toArray 5 (0, 0))) ∧ Aside0 (wr.heap[w5.heap.size + 1]? = some (.stringIter a0 i)) ∧ Aside0 (Below w.heap.size w wr)))
 case atStart =>
  refine ⟨0, by omega, ⟨?_⟩, ⟨?_⟩, ⟨?_⟩⟩; (· have := blk_new w5 (.cells ((keyAt a0.data.toList 0).map (Value.int .u8)).toArray 5); exact kA_ this _); (· have := World.iter_heap (w5.alloc (.cells ((keyAt a0.data.toList 0).map (Value.int .u8)).toArray 5)) a0 0; (simpa using this)); (· exact (HB.out.alloc HB.out.size _).alloc (by have := HB.out.size; simp; omega) _)
 case round =>
  obtain ⟨i, hig, HX, HI, HB2⟩ := hrel; clear HT; have HG := HX.out
  cases gk with
  | zero =>
   (obtain rfl : i = 64 := by omega); have hnx : ∀ ty, (Instr.next (.pointer (some ⟨w5.heap.size + 1, 0, none⟩)) true ty).run Tryd.prog wr = _ := fun ty => run_next_over wr (w5.heap.size + 1) a0 64 ty HI.out (by have := HS.out; omega); clear HG; go_wp2; (go_ret2); refine ⟨_, rfl, ?_, HB2.out⟩; have hl : (keyRow a0).length = 32 := keyAt_length _ _; refine Kd.R_of_own (h1 := fun _ => rfl) ⟨by rw [encs_length, Nat.mul_one], .inr ⟨_, 32, _, by rw [hl]; rfl, HB.out.size, HX.out, by rw [hl]; decide, by simp [maxLen], by simp [keyAt_length], ?_⟩⟩ (fun _ _ => trivial); rw [hl, List.take_of_length_le (by simp [keyAt_length])]; rfl
  | succ g =>
   (have hi : i < a0.size := by have := HS.out; omega); obtain ⟨x, hx⟩ : ∃ x : UInt8, a0[i]'hi = x := ⟨_, rfl⟩; (have hxl : a0.data.toList[i]? = some x := by rw [← hx]; exact Lib.data_getElem? a0 i hi); have hxd : digs.contains x = true := List.all_eq_true.1 HN.out x (List.mem_of_getElem? hxl); have hnx : ∀ ty, (Instr.next (.pointer (some ⟨w5.heap.size + 1, 0, none⟩)) true ty).run Tryd.prog wr = _ := fun ty => run_next_at wr (w5.heap.size + 1) a0 i ty HI.out hi (by rw [hx]; exact digs_low x hxd); have HXD := aM_ hxd; have HXL := aM_ hxl; have hq := dg_range x hxd; obtain ⟨q, hqe⟩ : ∃ q : Int, dg x = q := ⟨_, rfl⟩; rw [hqe] at hq; obtain ⟨q0, q1⟩ := hq
   have HIX := aM_ (show Calls Tryd.prog 54 #[.string ⟨#[48, 49, 50, 51, 52, 53, 54, 55, 56, 57, 97, 98, 99, 100, 101, 102]⟩, .int .u8 x.toNat] (setIter wr (w5.heap.size + 1) a0 (i + 1)) fun e w' => e = .returned (.int .i64 q) ∧ w' = setIter wr (w5.heap.size + 1) a0 (i + 1) from by
    have := strings_IndexByte_any ⟨#[48, 49, 50, 51, 52, 53, 54, 55, 56, 57, 97, 98, 99, 100, 101, 102]⟩ (x.toNat : Int) (setIter wr (w5.heap.size + 1) a0 (i + 1)); rw [show Lib.indexByte (⟨#[48, 49, 50, 51, 52, 53, 54, 55, 56, 57, 97, 98, 99, 100, 101, 102]⟩ : ByteArray).data.toList (x.toNat : Int).toNat.toUInt8 = q by rw [← hqe]; simp [dg, digs]] at this
    exact this)
   have HQ := aM_ hqe; have hX2 : (setIter wr (w5.heap.size + 1) a0 (i + 1)).heap[w5.heap.size]? = some (.cells ((keyAt a0.data.toList i).map (Value.int .u8)).toArray 5 (0, 0)) := (setIter_other _ _ _ _ _ (by omega)).trans HX.out; have HX2 := aM_ hX2; have HI2 := aM_ (setIter_same wr (w5.heap.size + 1) a0 (i + 1) (blk_lt HI.out)); have HB3 : Aside0 (Below w.heap.size w (setIter wr (w5.heap.size + 1) a0 (i + 1))) := ⟨setIter_below HB2.out (by have := HB.out.size; omega) a0 (i + 1)⟩; clear hxl hxd HG hX2 hqe
   rcases (show ∃ m, i = 2 * m ∨ i = 2 * m + 1 from ⟨i / 2, by omega⟩) with ⟨m, hm | hm⟩
   · have hm32 : m < 32 := by omega
     (have e1 : (i : Int) / 2 = (m : Int) := by omega); (have e2 : (i : Int) % 2 = 0 := by omega)
     have hc : (setIter wr (w5.heap.size + 1) a0 (i + 1)).cell? ⟨w5.heap.size, m, none⟩ = some (.int .u8 0) := by
      rw [kC_ HX2.out, hm]; simp [keyAt_get, hm32]; omega
     have hf : (setIter wr (w5.heap.size + 1) a0 (i + 1)).frozen? ⟨w5.heap.size, m, none⟩ = false := kF_ HX2.out _; have HM := aM_ hm; (have im0 : (0 : Int) ≤ (m : Int) := by omega); (have im1 : (m : Int) < 32 := by omega); clear hm; (go_wp2_with (go_at_call 54; refine HIX.out.mono ?_; rintro e w' ⟨rfl, hw⟩; rw [hw])); (go_region)
     all_goals
       go_wp2
       go_roundg g
       case measure => omega
       case rel =>
         refine ⟨i + 1, by omega, ⟨?_⟩, ⟨?_⟩, ⟨?_⟩⟩
         · rw [or_even q q0 q1]
           refine (blk_set HX2.out m (.int .u8 (16 * q))).trans ?_
           rw [keyCells_set _ _ (i + 1) m _ (by have h1 := keyAt_even a0.data.toList m hm32; rw [← HM.out] at h1; rw [← h1, List.getD_eq_getElem?_getD, HXL.out, ← HQ.out]; rfl)]
         · exact (Below.heap_setCell _ ⟨w5.heap.size, m, none⟩ _ (w5.heap.size + 1) (by simp)).trans HI2.out
         · exact bD_ (HB3.out.setCell (by have := HB.out.size; exact this) _)
   · have hm32 : m < 32 := by omega
     (have e1 : (i : Int) / 2 = (m : Int) := by omega); (have e2 : (i : Int) % 2 = 1 := by omega); obtain ⟨y, hy⟩ : ∃ y : UInt8, a0.data.toList.getD (2 * m) 0 = y := ⟨_, rfl⟩
     have hyd : digs.contains y = true := by
      (have hlt : 2 * m < a0.data.toList.length := by rw [← Lib.size_eq, HS.out]; omega); rw [List.getD_eq_getElem?_getD, List.getElem?_eq_getElem hlt] at hy; exact List.all_eq_true.1 HN.out y (by rw [← hy]; exact List.getElem_mem hlt)
     obtain ⟨p0, p1⟩ := dg_range y hyd
     have hc : (setIter wr (w5.heap.size + 1) a0 (i + 1)).cell? ⟨w5.heap.size, m, none⟩ = some (.int .u8 (16 * dg y)) := by
      rw [kC_ HX2.out, hm]; rw [List.getElem?_toArray, List.getElem?_map, keyAt_get _ _ _ hm32, if_pos (by omega), if_neg (by omega), hy]; simp
     have hf : (setIter wr (w5.heap.size + 1) a0 (i + 1)).frozen? ⟨w5.heap.size, m, none⟩ = false := kF_ HX2.out _; have HM := aM_ hm; have HY := aM_ hy; (have im0 : (0 : Int) ≤ (m : Int) := by omega); (have im1 : (m : Int) < 32 := by omega); clear hm hy hyd; (go_wp2_with (go_at_call 54; refine HIX.out.mono ?_; rintro e w' ⟨rfl, hw⟩; rw [hw])); (go_region)
     all_goals
       go_wp2
       go_roundg g
       case measure => omega
       case rel =>
         refine ⟨i + 1, by omega, ⟨?_⟩, ⟨?_⟩, ⟨?_⟩⟩
         · rw [or_odd (dg y) q p0 p1 q0 q1]
           refine (blk_set HX2.out m (.int .u8 (16 * dg y + q))).trans ?_
           rw [keyCells_set _ _ (i + 1) m _ (by have h1 := keyAt_odd a0.data.toList m hm32; rw [← HM.out] at h1; rw [← h1, HY.out, List.getD_eq_getElem?_getD, HXL.out, ← HQ.out]; rfl)]
         · exact (Below.heap_setCell _ ⟨w5.heap.size, m, none⟩ _ (w5.heap.size + 1) (by simp)).trans HI2.out
         · exact bD_ (HB3.out.setCell (by have := HB.out.size; exact this) _)
theorem key_Bytes.calls (a0 : ByteArray) (r1 : List Int) (r2 : Int) (w : World) (h : key_Bytes.f a0 = some (r1, r2)) :
    Calls Tryd.prog 46 #[.string a0] w fun e w' => ∃ v0_ : Value, e = .returned (.tuple #[v0_, .int .i64 r2]) ∧ Kd.R (Kd.int .u8) 5 w' w.heap.size (fun _ => True) v0_ r1 ∧ Below w.heap.size w w' := by
 unfold key_Bytes.f at h; (by_cases hs : a0.size = 64); (· (by_cases hn : a0.data.toList.all (digs.contains ·) = true); (· (have hk : isKey a0 = true := by unfold isKey; rw [hn, dT_ hs]; rfl); rw [if_pos hk] at h; simp only [oI_, pI_] at h; obtain ⟨rfl, rfl⟩ := h; exact key_Bytes_yes a0 w hs hn); (· have hn' := Bool.eq_false_iff.mpr hn; (have hk : ¬ isKey a0 = true := by unfold isKey; rw [hn', Bool.and_false]; decide); rw [if_neg hk] at h; simp only [oI_, pI_] at h; obtain ⟨rfl, rfl⟩ := h; refine (key_Bytes_no2 a0 w hs hn').mono ?_; rintro e w' ⟨rfl, hb⟩; exact ⟨_, rfl, Kd.R_nil _ _ _ _ _, hb⟩)); (· (have hk : ¬ isKey a0 = true := by unfold isKey; rw [decide_eq_false hs, Bool.false_and]; decide); rw [if_neg hk] at h; simp only [oI_, pI_] at h; obtain ⟨rfl, rfl⟩ := h; refine (key_Bytes_no1 a0 w hs).mono ?_; rintro e w' ⟨rfl, hb⟩; exact ⟨_, rfl, Kd.R_nil _ _ _ _ _, hb⟩)
end
structure ObjFld where
  kd : Nat
  i : Int
  s : ByteArray
  A : Option Addr
  c : Nat
  l : List Int
def ObjFld.val (x : ObjFld) : Value := if x.kd = 0 then .iface 3 (.int .i64 x.i) else if x.kd = 1 then .iface 9 (.string x.s) else if x.kd = 2 then .iface 45 (.slice x.A x.l.length x.c) else if x.kd = 3 then .iface 79 (.string x.s) else .iface 4 (.bool (x.i == 1))
def sNums (s : ByteArray) : List Int := s.data.toList.map fun b => (b.toNat : Int)
theorem sNums_length (s : ByteArray) : (sNums s).length = s.size := by simp [sNums]
def ObjFld.enc (k : Nat) (x : ObjFld) : Option (List Int) := if x.kd = 0 then leb_Put.f k (IntKind.u64.wrap x.i) else if x.kd = 1 then leb_Bytes.f k (sNums x.s) else if x.kd = 2 then leb_Bytes.f k x.l else if x.kd = 3 then (key_Bytes.f x.s).bind fun p => some p.1 else leb_Put.f k (if x.i = 1 then 1 else 0)
def ObjFld.ok (w : World) (row : Option Nat) (x : ObjFld) : Prop := (x.kd = 2 → (∀ W, w.grownBy W row → Kd.C (Kd.int .u8) W x.A x.l.length x.l) ∧ x.l.length ≤ x.c) ∧ (x.kd = 1 → x.s.size ≤ 9223372036854775807)
def obj_put.f (k : Nat) : List Int → List ObjFld → Option (List Int)
  | l, [] => some l
  | l, x :: xs => (x.enc k).bind fun e => if l.length + e.length < 140737488355328 then obj_put.f k (l ++ e) xs else none
theorem ObjFld.mono (x : ObjFld) (k : Nat) : LeO (x.enc k) (x.enc (k + 1)) := by
 unfold ObjFld.enc
 repeat' first
     | (with_reducible exact leb_Put.mono _ _)
     | (with_reducible exact leb_Bytes.mono _ _)
     | (with_reducible exact LeO.refl _)
     | (with_reducible exact LeO.none _)
     | (with_reducible refine LeO.ite ?_ ?_)
     | (with_reducible refine LeO.bind ?_ (fun _ => ?_))
theorem obj_put.mono : ∀ a0 a1 k, LeO (obj_put.f k a0 a1) (obj_put.f (k + 1) a0 a1) := by
 intro a0 a1
 induction a1 generalizing a0 with
 | nil => intro k; exact LeO.refl _
 | cons x xs ih =>
  intro k; simp only [obj_put.f]; refine LeO.bind (ObjFld.mono x k) (fun e => ?_); exact LeO.ite (ih _ k) (LeO.none _)
theorem objG_drewN {a w : World} {row : Option Nat} (h : a.grownBy w row) (n : Nat) : a.grownBy (w.drewN n) row := h.trans ⟨rfl, rfl, rfl, Nat.le_refl _, fun _ _ _ => rfl⟩
theorem obj_s2b (w : World) (s : ByteArray) (hs : s.size ≤ 9223372036854775807) : ∃ (A : Option Addr) (c : Nat) (w1 : World), (convert 9 45 (.string s)).run Tryd.prog w = .ok (.slice A (sNums s).length c) w1 ∧ (sNums s).length ≤ c ∧ Kd.C (Kd.int .u8) w1 A (sNums s).length (sNums s) ∧ Below w.heap.size w w1 := by
 have hrun := run_bytes_of_string (P := Tryd.prog) w 9 45 5 s Tryd.underlying9 Tryd.underlying45 Tryd.underlying5; rw [sNums_length]; refine ⟨_, _, _, hrun, grownCap_ge _ _ _ _, Kd.C_of_reads (d := (0 : Int)) (h1 := fun _ => rfl) ⟨sNums_length s, hs, fun _ => ⟨_, rfl, fun j hj => ?_⟩⟩, ((bD_ (Below.refl _ _)).alloc (Nat.le_refl _) _)⟩; have hj' : j < s.data.size := hj; have hb := bytesRow_at s (grownCap w s.size 0 5) j hj'; have hh := heap_alloc_new w.drew (.cells (bytesRow s (grownCap w s.size 0 5)) 5 ((bytesRow s (grownCap w s.size 0 5)).size, (bytesRow s (grownCap w s.size 0 5)).size + 1)); have hsz : w.drew.heap.size = w.heap.size := rfl; rw [hsz] at hh
 have hv : (sNums s).getD j 0 = (s.data[j].toNat : Int) := by
  have e : s.data[j]? = some s.data[j] := Array.getElem?_eq_getElem hj'; simp [sNums, e]
 rw [hv]; (by_cases h0 : j = 0); (· subst h0; simp only [World.cell?, Addr.add, if_true]; rw [hh]; simpa using hb); (· simp only [World.cell?, Addr.add, if_neg h0]; rw [hh]; simpa using hb)
theorem obj_zero {P : Program} {T : TypeId} {z : Value} (hz : (P.info? T).map (·.zero) = some (some z)) (w : World) : (zeroValue T).run P w = .ok z w := by
 obtain ⟨j, hj, hz'⟩ := Option.map_eq_some_iff.1 hz; simp [zeroValue, typeInfo, hj, hz']
theorem obj_hitI (v : Value) (xT : TypeId) (w : World) : (Instr.typeAssert (.iface 3 v) xT 3 true).run Tryd.prog w = .ok (.tuple #[v, .bool true]) w := by simp [Instr.typeAssert, run_underlying Tryd.underlying3]
theorem obj_missI (t : TypeId) (v : Value) (xT : TypeId) (w : World) (ht : t ≠ 3) : (Instr.typeAssert (.iface t v) xT 3 true).run Tryd.prog w = .ok (.tuple #[.int .i64 0, .bool false]) w := by simp [Instr.typeAssert, run_underlying Tryd.underlying3, ht, obj_zero (P := Tryd.prog) (T := 3) (z := .int .i64 0) (by kernel_rfl)]
theorem obj_hitS (v : Value) (xT : TypeId) (w : World) : (Instr.typeAssert (.iface 9 v) xT 9 true).run Tryd.prog w = .ok (.tuple #[v, .bool true]) w := by simp [Instr.typeAssert, run_underlying Tryd.underlying9]
theorem obj_missS (t : TypeId) (v : Value) (xT : TypeId) (w : World) (ht : t ≠ 9) : (Instr.typeAssert (.iface t v) xT 9 true).run Tryd.prog w = .ok (.tuple #[.string ByteArray.empty, .bool false]) w := by simp [Instr.typeAssert, run_underlying Tryd.underlying9, ht, obj_zero (P := Tryd.prog) (T := 9) (z := .string ByteArray.empty) (by kernel_rfl)]
theorem obj_hitB (v : Value) (xT : TypeId) (w : World) : (Instr.typeAssert (.iface 45 v) xT 45 true).run Tryd.prog w = .ok (.tuple #[v, .bool true]) w := by simp [Instr.typeAssert, run_underlying Tryd.underlying45]
theorem obj_missB (t : TypeId) (v : Value) (xT : TypeId) (w : World) (ht : t ≠ 45) : (Instr.typeAssert (.iface t v) xT 45 true).run Tryd.prog w = .ok (.tuple #[.slice none 0 0, .bool false]) w := by simp [Instr.typeAssert, run_underlying Tryd.underlying45, ht, obj_zero (P := Tryd.prog) (T := 45) (z := .slice none 0 0) (by kernel_rfl)]
theorem obj_hitK (v : Value) (xT : TypeId) (w : World) : (Instr.typeAssert (.iface 79 v) xT 79 true).run Tryd.prog w = .ok (.tuple #[v, .bool true]) w := by simp [Instr.typeAssert, run_underlying Tryd.underlying79]
theorem obj_missK (t : TypeId) (v : Value) (xT : TypeId) (w : World) (ht : t ≠ 79) : (Instr.typeAssert (.iface t v) xT 79 true).run Tryd.prog w = .ok (.tuple #[.string ByteArray.empty, .bool false]) w := by simp [Instr.typeAssert, run_underlying Tryd.underlying79, ht, obj_zero (P := Tryd.prog) (T := 79) (z := .string ByteArray.empty) (by kernel_rfl)]
theorem obj_hitO (v : Value) (xT : TypeId) (w : World) : (Instr.typeAssert (.iface 4 v) xT 4 true).run Tryd.prog w = .ok (.tuple #[v, .bool true]) w := by simp [Instr.typeAssert, run_underlying Tryd.underlying4]
theorem objG_below {a w w' : World} {row : Option Nat} (h : a.grownBy w row) (hb : Below w.heap.size w w') : a.grownBy w' row := h.trans ⟨hb.os, hb.tape, hb.output, hb.size, fun k hk _ => hb.block k hk⟩
theorem objG_low {a w : World} {row : Option Nat} {B : Nat} (h : a.grownBy w row) (hB : B ≤ a.heap.size) (hr : ∀ k, row = some k → B ≤ k) : Below B a w := (Below.refl B a).grown h hB hr
theorem objG_then {a w w' : World} {row row' : Option Nat} (h : a.grownBy w row) (hg : w.grownBy w' row') (hat : row' = row ∨ ∃ b, row' = some b ∧ a.heap.size ≤ b) : a.grownBy w' row := ⟨hg.os.trans h.os, hg.tape.trans h.tape, hg.output.trans h.output, Nat.le_trans h.size hg.size, fun i hi hne =>
  (hg.block i (Nat.lt_of_lt_of_le hi h.size) (fun e => by
    rcases hat with e' | ⟨b, e', hb⟩
    · exact hne (by rw [← e']; exact e)
    · rw [e'] at e; injection e with e; omega)).trans (h.block i hi hne)⟩
theorem objA_then {r1 r0 row : Option Nat} {n m : Nat} (h : r1 = r0 ∨ ∃ b, r1 = some b ∧ m ≤ b) (hat : r0 = row ∨ ∃ b, r0 = some b ∧ n ≤ b) (hnm : n ≤ m) : r1 = row ∨ ∃ b, r1 = some b ∧ n ≤ b := by
 rcases h with h | ⟨b, h, hb⟩
 (· rw [h]; exact hat); (· exact .inr ⟨b, h, Nat.le_trans hnm hb⟩)
theorem objGA_then {a w w' : World} {row row' row6 : Option Nat} (hg : w.grownBy w' row') (hat6 : row6 = row' ∨ ∃ b, row6 = some b ∧ w.heap.size ≤ b) (hat : row' = row ∨ ∃ b, row' = some b ∧ a.heap.size ≤ b) (h : a.grownBy w row) : a.grownBy w' row ∧ (row6 = row ∨ ∃ b, row6 = some b ∧ a.heap.size ≤ b) := ⟨objG_then h hg hat, objA_then hat6 hat h.size⟩
theorem obj_put.calls (k B : Nat) (vb : Value) (l : List Int) (F : Addr) (fs : List ObjFld) (cF : Nat) (r : List Int) (w : World) (hO : Kd.R (Kd.int .u8) 5 w B (fun _ => True) vb l) (hB : B ≤ w.heap.size)
    (hF : ∀ i : Nat, (h : i < fs.length) → w.cell? (F.add i) = some (fs[i]).val) (hFn : some F.block ≠ vb.ownBlock) (hok : ∀ x ∈ fs, x.ok w vb.ownBlock) (hlen : fs.length < 1099511627776) (h : obj_put.f k l fs = some r) :
    Calls Tryd.prog 36 #[vb, .slice (some F) fs.length cF] w fun e w' => ∃ v_ : Value, e = .returned v_ ∧ Kd.R (Kd.int .u8) 5 w' B (fun _ => True) v_ r ∧ w.grownBy w' vb.ownBlock ∧ (v_.ownBlock = vb.ownBlock ∨ ∃ b, v_.ownBlock = some b ∧ w.heap.size ≤ b) := by
 have HLOW := aM_ (Kd.R_base hO); have HO := aM_ hO; have HBW := aM_ hB; have HFC := aM_ hF; have HFN := aM_ hFn; have HOK := aM_ hok; have HLEN := aM_ hlen; have HP := aM_ h; clear hO hB hF hFn hok hlen h; (go_enter Tryd.func36, Tryd.ntmps36); go_wp2; (go_loopg [0, 17] fs.length (fun kq v0 v17 w' => ∃ (i : Nat) (lc : List Int), v17 = .int .i64 (i : Int) ∧ Aside0 (kq + i = fs.length) ∧ Aside0 (obj_put.f k lc (fs.drop i) = some r) ∧ Aside0 (Kd.R (Kd.int .u8) 5 w' B (fun _ => True) v0 lc) ∧ Aside0 (w.grownBy w' vb.ownBlock) ∧ Aside0 (v0.ownBlock = vb.ownBlock ∨ ∃ b, v0.ownBlock = some b ∧ w.heap.size ≤ b)))
 case atStart => exact ⟨0, l, rfl, ⟨by omega⟩, HP, ⟨rZ_ HO.out⟩, ⟨by first | exact World.grownBy.refl _ _ | exact objG_drewN (World.grownBy.refl _ _) _⟩, ⟨.inl rfl⟩⟩
 case round =>
  clear HP HO; obtain ⟨i, lc, rfl, HK, HP, HO, HG, HAT⟩ := hrel
  cases gk with
  | zero =>
   (have hi : i = fs.length := by have := HK.out; omega); have H := HP.out; rw [hi, List.drop_length] at H; obtain rfl := oJ_ H; have c0 : decide ((i : Int) < (fs.length : Int)) = false := decide_eq_false (by omega); have c1 : decide (i < fs.length) = false := decide_eq_false (by omega); clear H hi; go_wp2; go_ret; exact ⟨_, rfl, by exact rZ_ HO.out, (by repeat (first | exact HG.out | (with_reducible refine World.grownBy.trans ?_ (World.grownBy_alloc _ _ _)) | (with_reducible refine objG_drewN ?_ _))), HAT.out⟩
  | succ k1 =>
   (have hi : i < fs.length := by have := HK.out; omega); have H := HP.out; rw [List.drop_eq_getElem_cons hi] at H; simp only [obj_put.f] at H; replace H := Option.bind_eq_some_iff.mp H; obtain ⟨e0, E0, H⟩ := H; (by_cases hl : lc.length + e0.length < 140737488355328)
   case neg => rw [if_neg hl] at H; cases H
   rw [if_pos hl] at H; have HP' := aM_ H; have LM := aM_ hl; (have hcell := HG.out.cell_far (F.add i) (lC_ w _ (HFC.out i hi)) (by rw [show (F.add i).block = F.block by unfold Addr.add; split <;> rfl]; exact HFN.out)); rw [HFC.out i hi] at hcell; have XOK := aM_ (HOK.out fs[i] (List.getElem_mem hi)); have c0 : decide ((i : Int) < (fs.length : Int)) = true := dT_ (by omega); have c1 : decide (i < fs.length) = true := dT_ hi; have q0 : ((i : Int) < (fs.length : Int)) = True := eq_true (by omega); have q1 : (i < fs.length) = True := eq_true hi; have q2 : ((0 : Int) ≤ (i : Int)) = True := eq_true (by omega); have q3 : ((i : Int)).toNat = i := Int.toNat_natCast i; have HW : Aside0 (wrap64 ((i : Int) + 1) = ((i + 1 : Nat) : Int)) := ⟨by have := HLEN.out; unfold wrap64; omega⟩; clear H hl HP; generalize fs[i] = x at hcell E0 XOK; clear hi; (by_cases h0 : x.kd = 0)
   · have ev : x.val = .iface 3 (.int .i64 x.i) := by unfold ObjFld.val; rw [if_pos h0]
     rw [ev] at hcell; have HE : Aside0 (leb_Put.f k (IntKind.u64.wrap x.i) = some e0) := ⟨by unfold ObjFld.enc at E0; rw [if_pos h0] at E0; exact E0⟩; generalize x.i = xi at hcell HE; have a0 := obj_hitI; clear ev E0 XOK h0
     go_wp2_with (first | (go_at_call 44; refine (leb_Put.calls k (IntKind.u64.wrap xi) e0 _ HE.out).mono ?_; rintro e w5 ⟨v5, rfl, ho0, hb⟩; have m0_ := aM_ (Kd.R_below (rZ_ HO.out) hb); have m1_ := aM_ (objG_below (by repeat (first | exact HG.out | (with_reducible refine World.grownBy.trans ?_ (World.grownBy_alloc _ _ _)) | (with_reducible refine objG_drewN ?_ _))) hb); obtain ⟨A5, c5, e5_⟩ := Kd.R_slice ho0; subst e5_; have HC5 := aM_ (rR_ ho0).2.2; clear HO HG ho0 hb; have HO := m0_; have HG := m1_; clear m0_ m1_) | ((with_reducible refine gate_builtin (b := .append) (xs := #[.tmp 25, .tmp 28]) rfl ?_); at_builtin; refine Kd.R_append_rows (Kd.int .u8) (w0 := w) B rfl (.tmp 25) (.tmp 28) 45 5 (.int .u8 0) 1 rfl Tryd.underlying45 info5 rfl (by decide) (by omega) u0 lc e0 _ _ _ (fun _ => True) (fun _ => False) rfl rfl ?aO ?aR (fun _ _ h => h) (fun _ h => h.elim) (fun _ _ => trivial) ?aB ?aS ?aL ?_; (case aO => exact (rZ_ HO.out)); (case aR => exact (by repeat (first | exact HC5.out | (with_reducible refine Kd.C_alloc ?_ _) | (with_reducible refine Kd.C_drewN ?_ _) | (with_reducible refine Kd.C_drew ?_)))); (case aB => exact objG_low HG.out HBW.out HLOW.out); (case aS => exact Nat.le_trans HBW.out HG.out.size); (case aL => have := LM.out; omega); intro v6 w6 ho hb hg hat; have m0_ := aM_ ho; have m3_ := objGA_then hg hat HAT.out (by repeat (first | exact HG.out | (with_reducible refine World.grownBy.trans ?_ (World.grownBy_alloc _ _ _)) | (with_reducible refine objG_drewN ?_ _))); have m1_ := aM_ m3_.1; have m2_ := aM_ m3_.2; clear m3_; clear HO HG HAT ho hb hg hat; have HO := m0_; have HG := m1_; have HAT := m2_; clear m0_ m1_ m2_))
     (go_roundg k1)
     case measure => exact Nat.lt_succ_self _
     case rel => exact ⟨i + 1, lc ++ e0, (by first | exact HW.out | (rw [HW.out]) | (simp only [HW.out])), ⟨by have := HK.out; omega⟩, HP', ⟨rZ_ HO.out⟩, ⟨(by repeat (first | exact HG.out | (with_reducible refine World.grownBy.trans ?_ (World.grownBy_alloc _ _ _)) | (with_reducible refine objG_drewN ?_ _)))⟩, HAT⟩
   (by_cases h1 : x.kd = 1)
   · have hs : x.s.size ≤ 9223372036854775807 := XOK.out.2 h1
     (have ev : x.val = .iface 9 (.string x.s) := by unfold ObjFld.val; rw [if_neg h0]; rw [if_pos h1]); rw [ev] at hcell; have HE : Aside0 (leb_Bytes.f k (sNums x.s) = some e0) := ⟨by unfold ObjFld.enc at E0; rw [if_neg h0] at E0; rw [if_pos h1] at E0; exact E0⟩; generalize x.s = xs at hcell HE hs; have HS := aM_ hs; clear ev E0 XOK h0 h1 hs; have a0 := obj_hitS; have bI := fun (v : Value) (xT : TypeId) (w : World) => obj_missI 9 v xT w (by decide); (go_wp2_with fail); obtain ⟨A4, c4, w4, e4, hc4, hC4, hb4⟩ := obj_s2b wr xs HS.out; rw [e4]; clear e4; have HC4 := aM_ hC4; have hc4 := aM_ hc4; have m0_ := aM_ (Kd.R_below HO.out hb4); have m1_ := aM_ (objG_below HG.out hb4); have hb4 := aM_ hb4; clear HO HG hC4; have HO := m0_; have HG := m1_; clear m0_ m1_
     go_wp2_with (first | (go_at_call 45; refine (leb_Bytes.calls k _ c4 (sNums xs) e0 _ (by repeat (first | exact HC4.out | (with_reducible refine Kd.C_alloc ?_ _) | (with_reducible refine Kd.C_drewN ?_ _) | (with_reducible refine Kd.C_drew ?_))) hc4.out HE.out).mono ?_; rintro e w5 ⟨v5, rfl, ho0, hb⟩; have m0_ := aM_ (Kd.R_below (rZ_ HO.out) hb); have m1_ := aM_ (objG_below (by repeat (first | exact HG.out | (with_reducible refine World.grownBy.trans ?_ (World.grownBy_alloc _ _ _)) | (with_reducible refine objG_drewN ?_ _))) hb); obtain ⟨A5, c5, e5_⟩ := Kd.R_slice ho0; subst e5_; have HC5 := aM_ (rR_ ho0).2.2; clear HO HG ho0 hb; have HO := m0_; have HG := m1_; clear m0_ m1_) | ((with_reducible refine gate_builtin (b := .append) (xs := #[.tmp 33, .tmp 36]) rfl ?_); at_builtin; refine Kd.R_append_rows (Kd.int .u8) (w0 := w) B rfl (.tmp 33) (.tmp 36) 45 5 (.int .u8 0) 1 rfl Tryd.underlying45 info5 rfl (by decide) (by omega) u0 lc e0 _ _ _ (fun _ => True) (fun _ => False) rfl rfl ?aO ?aR (fun _ _ h => h) (fun _ h => h.elim) (fun _ _ => trivial) ?aB ?aS ?aL ?_; (case aO => exact (rZ_ HO.out)); (case aR => exact (by repeat (first | exact HC5.out | (with_reducible refine Kd.C_alloc ?_ _) | (with_reducible refine Kd.C_drewN ?_ _) | (with_reducible refine Kd.C_drew ?_)))); (case aB => exact objG_low HG.out HBW.out HLOW.out); (case aS => exact Nat.le_trans HBW.out HG.out.size); (case aL => have := LM.out; omega); intro v6 w6 ho hb hg hat; have m0_ := aM_ ho; have m3_ := objGA_then hg hat HAT.out (by repeat (first | exact HG.out | (with_reducible refine World.grownBy.trans ?_ (World.grownBy_alloc _ _ _)) | (with_reducible refine objG_drewN ?_ _))); have m1_ := aM_ m3_.1; have m2_ := aM_ m3_.2; clear m3_; clear HO HG HAT ho hb hg hat; have HO := m0_; have HG := m1_; have HAT := m2_; clear m0_ m1_ m2_))
     (go_roundg k1)
     case measure => exact Nat.lt_succ_self _
     case rel => exact ⟨i + 1, lc ++ e0, (by first | exact HW.out | (rw [HW.out]) | (simp only [HW.out])), ⟨by have := HK.out; omega⟩, HP', ⟨rZ_ HO.out⟩, ⟨(by repeat (first | exact HG.out | (with_reducible refine World.grownBy.trans ?_ (World.grownBy_alloc _ _ _)) | (with_reducible refine objG_drewN ?_ _)))⟩, HAT⟩
   (by_cases h2 : x.kd = 2)
   · have hs := XOK.out.1 h2
     (have ev : x.val = .iface 45 (.slice x.A x.l.length x.c) := by unfold ObjFld.val; rw [if_neg h0]; rw [if_neg h1]; rw [if_pos h2]); rw [ev] at hcell; have HE : Aside0 (leb_Bytes.f k x.l = some e0) := ⟨by unfold ObjFld.enc at E0; rw [if_neg h0] at E0; rw [if_neg h1] at E0; rw [if_pos h2] at E0; exact E0⟩; generalize x.l = xl at hcell HE hs; generalize x.A = xA at hcell hs; generalize x.c = xc at hcell hs; have HC4 := aM_ (hs.1 _ HG.out); have hc4 := aM_ hs.2; clear ev E0 XOK h0 h1 h2 hs; have a0 := obj_hitB; have bI := fun (v : Value) (xT : TypeId) (w : World) => obj_missI 45 v xT w (by decide); have bS := fun (v : Value) (xT : TypeId) (w : World) => obj_missS 45 v xT w (by decide)
     go_wp2_with (first | (go_at_call 45; refine (leb_Bytes.calls k _ xc xl e0 _ (by repeat (first | exact HC4.out | (with_reducible refine Kd.C_alloc ?_ _) | (with_reducible refine Kd.C_drewN ?_ _) | (with_reducible refine Kd.C_drew ?_))) hc4.out HE.out).mono ?_; rintro e w5 ⟨v5, rfl, ho0, hb⟩; have m0_ := aM_ (Kd.R_below (rZ_ HO.out) hb); have m1_ := aM_ (objG_below (by repeat (first | exact HG.out | (with_reducible refine World.grownBy.trans ?_ (World.grownBy_alloc _ _ _)) | (with_reducible refine objG_drewN ?_ _))) hb); obtain ⟨A5, c5, e5_⟩ := Kd.R_slice ho0; subst e5_; have HC5 := aM_ (rR_ ho0).2.2; clear HO HG ho0 hb; have HO := m0_; have HG := m1_; clear m0_ m1_) | ((with_reducible refine gate_builtin (b := .append) (xs := #[.tmp 41, .tmp 43]) rfl ?_); at_builtin; refine Kd.R_append_rows (Kd.int .u8) (w0 := w) B rfl (.tmp 41) (.tmp 43) 45 5 (.int .u8 0) 1 rfl Tryd.underlying45 info5 rfl (by decide) (by omega) u0 lc e0 _ _ _ (fun _ => True) (fun _ => False) rfl rfl ?aO ?aR (fun _ _ h => h) (fun _ h => h.elim) (fun _ _ => trivial) ?aB ?aS ?aL ?_; (case aO => exact (rZ_ HO.out)); (case aR => exact (by repeat (first | exact HC5.out | (with_reducible refine Kd.C_alloc ?_ _) | (with_reducible refine Kd.C_drewN ?_ _) | (with_reducible refine Kd.C_drew ?_)))); (case aB => exact objG_low HG.out HBW.out HLOW.out); (case aS => exact Nat.le_trans HBW.out HG.out.size); (case aL => have := LM.out; omega); intro v6 w6 ho hb hg hat; have m0_ := aM_ ho; have m3_ := objGA_then hg hat HAT.out (by repeat (first | exact HG.out | (with_reducible refine World.grownBy.trans ?_ (World.grownBy_alloc _ _ _)) | (with_reducible refine objG_drewN ?_ _))); have m1_ := aM_ m3_.1; have m2_ := aM_ m3_.2; clear m3_; clear HO HG HAT ho hb hg hat; have HO := m0_; have HG := m1_; have HAT := m2_; clear m0_ m1_ m2_))
     (go_roundg k1)
     case measure => exact Nat.lt_succ_self _
     case rel => exact ⟨i + 1, lc ++ e0, (by first | exact HW.out | (rw [HW.out]) | (simp only [HW.out])), ⟨by have := HK.out; omega⟩, HP', ⟨rZ_ HO.out⟩, ⟨(by repeat (first | exact HG.out | (with_reducible refine World.grownBy.trans ?_ (World.grownBy_alloc _ _ _)) | (with_reducible refine objG_drewN ?_ _)))⟩, HAT⟩
   (by_cases h3 : x.kd = 3)
   · have ev : x.val = .iface 79 (.string x.s) := by unfold ObjFld.val; rw [if_neg h0]; rw [if_neg h1]; rw [if_neg h2]; rw [if_pos h3]
     rw [ev] at hcell; have HE : Aside0 (∃ n0, key_Bytes.f x.s = some (e0, n0)) := ⟨by unfold ObjFld.enc at E0; rw [if_neg h0] at E0; rw [if_neg h1] at E0; rw [if_neg h2] at E0; rw [if_pos h3] at E0; obtain ⟨⟨p1, p2⟩, E1, E2⟩ := Option.bind_eq_some_iff.mp E0; simp only [oI_] at E2; exact ⟨p2, by rw [← E2]; exact E1⟩⟩; generalize x.s = xs at hcell HE; clear ev E0 XOK h0 h1 h2 h3; obtain ⟨n0, HE⟩ := HE.out; have HE := aM_ HE; have a0 := obj_hitK; have bI := fun (v : Value) (xT : TypeId) (w : World) => obj_missI 79 v xT w (by decide); have bS := fun (v : Value) (xT : TypeId) (w : World) => obj_missS 79 v xT w (by decide); have bB := fun (v : Value) (xT : TypeId) (w : World) => obj_missB 79 v xT w (by decide)
     go_wp2_with (first | (go_at_call 46; refine (key_Bytes.calls xs e0 n0 _ HE.out).mono ?_; rintro e w5 ⟨v5, rfl, ho0, hb⟩; have m0_ := aM_ (Kd.R_below (rZ_ HO.out) hb); have m1_ := aM_ (objG_below (by repeat (first | exact HG.out | (with_reducible refine World.grownBy.trans ?_ (World.grownBy_alloc _ _ _)) | (with_reducible refine objG_drewN ?_ _))) hb); obtain ⟨A5, c5, e5_⟩ := Kd.R_slice ho0; subst e5_; have HC5 := aM_ (rR_ ho0).2.2; clear HO HG ho0 hb; have HO := m0_; have HG := m1_; clear m0_ m1_) | ((with_reducible refine gate_builtin (b := .append) (xs := #[.tmp 53, .tmp 54]) rfl ?_); at_builtin; refine Kd.R_append_rows (Kd.int .u8) (w0 := w) B rfl (.tmp 53) (.tmp 54) 45 5 (.int .u8 0) 1 rfl Tryd.underlying45 info5 rfl (by decide) (by omega) u0 lc e0 _ _ _ (fun _ => True) (fun _ => False) rfl rfl ?aO ?aR (fun _ _ h => h) (fun _ h => h.elim) (fun _ _ => trivial) ?aB ?aS ?aL ?_; (case aO => exact (rZ_ HO.out)); (case aR => exact (by repeat (first | exact HC5.out | (with_reducible refine Kd.C_alloc ?_ _) | (with_reducible refine Kd.C_drewN ?_ _) | (with_reducible refine Kd.C_drew ?_)))); (case aB => exact objG_low HG.out HBW.out HLOW.out); (case aS => exact Nat.le_trans HBW.out HG.out.size); (case aL => have := LM.out; omega); intro v6 w6 ho hb hg hat; have m0_ := aM_ ho; have m3_ := objGA_then hg hat HAT.out (by repeat (first | exact HG.out | (with_reducible refine World.grownBy.trans ?_ (World.grownBy_alloc _ _ _)) | (with_reducible refine objG_drewN ?_ _))); have m1_ := aM_ m3_.1; have m2_ := aM_ m3_.2; clear m3_; clear HO HG HAT ho hb hg hat; have HO := m0_; have HG := m1_; have HAT := m2_; clear m0_ m1_ m2_))
     (go_roundg k1)
     case measure => exact Nat.lt_succ_self _
     case rel => exact ⟨i + 1, lc ++ e0, (by first | exact HW.out | (rw [HW.out]) | (simp only [HW.out])), ⟨by have := HK.out; omega⟩, HP', ⟨rZ_ HO.out⟩, ⟨(by repeat (first | exact HG.out | (with_reducible refine World.grownBy.trans ?_ (World.grownBy_alloc _ _ _)) | (with_reducible refine objG_drewN ?_ _)))⟩, HAT⟩
   have hkv : ∃ b : Bool, x.val = .iface 4 (.bool b) ∧ leb_Put.f k (IntKind.u64.wrap (if b = true then 1 else 0)) = some e0 := by
    refine ⟨x.i == 1, ?_, ?_⟩; (· unfold ObjFld.val; rw [if_neg h0, if_neg h1, if_neg h2, if_neg h3]); (· unfold ObjFld.enc at E0; rw [if_neg h0, if_neg h1, if_neg h2, if_neg h3] at E0; (by_cases hi : x.i = 1); (· rw [if_pos hi] at E0; rw [if_pos (by simpa using hi)]; exact E0); (· rw [if_neg hi] at E0; rw [if_neg (by simpa using hi)]; exact E0))
   obtain ⟨xb, ev, HE⟩ := hkv; rw [ev] at hcell; have a0 := obj_hitO; have bI := fun (v : Value) (xT : TypeId) (w : World) => obj_missI 4 v xT w (by decide); have bS := fun (v : Value) (xT : TypeId) (w : World) => obj_missS 4 v xT w (by decide); have bB := fun (v : Value) (xT : TypeId) (w : World) => obj_missB 4 v xT w (by decide); have bK := fun (v : Value) (xT : TypeId) (w : World) => obj_missK 4 v xT w (by decide)
   cases xb with
   | true =>
    have HE := aM_ HE; clear ev E0 XOK h0 h1 h2 h3
    go_wp2_with (first | (go_at_call 44; refine (leb_Put.calls k (IntKind.u64.wrap 1) e0 _ HE.out).mono ?_; rintro e w5 ⟨v5, rfl, ho0, hb⟩; have m0_ := aM_ (Kd.R_below (rZ_ HO.out) hb); have m1_ := aM_ (objG_below (by repeat (first | exact HG.out | (with_reducible refine World.grownBy.trans ?_ (World.grownBy_alloc _ _ _)) | (with_reducible refine objG_drewN ?_ _))) hb); obtain ⟨A5, c5, e5_⟩ := Kd.R_slice ho0; subst e5_; have HC5 := aM_ (rR_ ho0).2.2; clear HO HG ho0 hb; have HO := m0_; have HG := m1_; clear m0_ m1_) | ((with_reducible refine gate_builtin (b := .append) (xs := #[.tmp 60, .tmp 63]) rfl ?_); at_builtin; refine Kd.R_append_rows (Kd.int .u8) (w0 := w) B rfl (.tmp 60) (.tmp 63) 45 5 (.int .u8 0) 1 rfl Tryd.underlying45 info5 rfl (by decide) (by omega) u0 lc e0 _ _ _ (fun _ => True) (fun _ => False) rfl rfl ?aO ?aR (fun _ _ h => h) (fun _ h => h.elim) (fun _ _ => trivial) ?aB ?aS ?aL ?_; (case aO => exact (rZ_ HO.out)); (case aR => exact (by repeat (first | exact HC5.out | (with_reducible refine Kd.C_alloc ?_ _) | (with_reducible refine Kd.C_drewN ?_ _) | (with_reducible refine Kd.C_drew ?_)))); (case aB => exact objG_low HG.out HBW.out HLOW.out); (case aS => exact Nat.le_trans HBW.out HG.out.size); (case aL => have := LM.out; omega); intro v6 w6 ho hb hg hat; have m0_ := aM_ ho; have m3_ := objGA_then hg hat HAT.out (by repeat (first | exact HG.out | (with_reducible refine World.grownBy.trans ?_ (World.grownBy_alloc _ _ _)) | (with_reducible refine objG_drewN ?_ _))); have m1_ := aM_ m3_.1; have m2_ := aM_ m3_.2; clear m3_; clear HO HG HAT ho hb hg hat; have HO := m0_; have HG := m1_; have HAT := m2_; clear m0_ m1_ m2_))
    (go_roundg k1)
    case measure => exact Nat.lt_succ_self _
    case rel => exact ⟨i + 1, lc ++ e0, (by first | exact HW.out | (rw [HW.out]) | (simp only [HW.out])), ⟨by have := HK.out; omega⟩, HP', ⟨rZ_ HO.out⟩, ⟨(by repeat (first | exact HG.out | (with_reducible refine World.grownBy.trans ?_ (World.grownBy_alloc _ _ _)) | (with_reducible refine objG_drewN ?_ _)))⟩, HAT⟩
   | false =>
    have HE := aM_ HE; clear ev E0 XOK h0 h1 h2 h3
    go_wp2_with (first | (go_at_call 44; refine (leb_Put.calls k (IntKind.u64.wrap 0) e0 _ HE.out).mono ?_; rintro e w5 ⟨v5, rfl, ho0, hb⟩; have m0_ := aM_ (Kd.R_below (rZ_ HO.out) hb); have m1_ := aM_ (objG_below (by repeat (first | exact HG.out | (with_reducible refine World.grownBy.trans ?_ (World.grownBy_alloc _ _ _)) | (with_reducible refine objG_drewN ?_ _))) hb); obtain ⟨A5, c5, e5_⟩ := Kd.R_slice ho0; subst e5_; have HC5 := aM_ (rR_ ho0).2.2; clear HO HG ho0 hb; have HO := m0_; have HG := m1_; clear m0_ m1_) | ((with_reducible refine gate_builtin (b := .append) (xs := #[.tmp 60, .tmp 63]) rfl ?_); at_builtin; refine Kd.R_append_rows (Kd.int .u8) (w0 := w) B rfl (.tmp 60) (.tmp 63) 45 5 (.int .u8 0) 1 rfl Tryd.underlying45 info5 rfl (by decide) (by omega) u0 lc e0 _ _ _ (fun _ => True) (fun _ => False) rfl rfl ?aO ?aR (fun _ _ h => h) (fun _ h => h.elim) (fun _ _ => trivial) ?aB ?aS ?aL ?_; (case aO => exact (rZ_ HO.out)); (case aR => exact (by repeat (first | exact HC5.out | (with_reducible refine Kd.C_alloc ?_ _) | (with_reducible refine Kd.C_drewN ?_ _) | (with_reducible refine Kd.C_drew ?_)))); (case aB => exact objG_low HG.out HBW.out HLOW.out); (case aS => exact Nat.le_trans HBW.out HG.out.size); (case aL => have := LM.out; omega); intro v6 w6 ho hb hg hat; have m0_ := aM_ ho; have m3_ := objGA_then hg hat HAT.out (by repeat (first | exact HG.out | (with_reducible refine World.grownBy.trans ?_ (World.grownBy_alloc _ _ _)) | (with_reducible refine objG_drewN ?_ _))); have m1_ := aM_ m3_.1; have m2_ := aM_ m3_.2; clear m3_; clear HO HG HAT ho hb hg hat; have HO := m0_; have HG := m1_; have HAT := m2_; clear m0_ m1_ m2_))
    (go_roundg k1)
    case measure => exact Nat.lt_succ_self _
    case rel => exact ⟨i + 1, lc ++ e0, (by first | exact HW.out | (rw [HW.out]) | (simp only [HW.out])), ⟨by have := HK.out; omega⟩, HP', ⟨rZ_ HO.out⟩, ⟨(by repeat (first | exact HG.out | (with_reducible refine World.grownBy.trans ?_ (World.grownBy_alloc _ _ _)) | (with_reducible refine objG_drewN ?_ _)))⟩, HAT⟩
end Go.Proofs.YtigbmfogfgbmfaaDoor.Fn
