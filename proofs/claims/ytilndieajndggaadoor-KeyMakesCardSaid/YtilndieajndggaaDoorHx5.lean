import Derived.Test.YtilndieajndggaaDoorHx0
import Derived.Test.YtilndieajndggaaDoorHx1
namespace Go.Proofs.YtilndieajndggaaDoor.Fn
open Go.RowKit Go.Proofs.YtilndieajndggaaDoorW.PrintWords Go.Proofs.YtilndieajndggaaDoorW.PrintLast Go.Proofs.YtilndieajndggaaDoorW.PrintMore
attribute [local go_sem] max2_int min2_int max_two min_two max_three min_three max_four min_four
set_option linter.unusedVariables false
set_option linter.unusedSimpArgs false
section
open Go.Lib
set_option maxHeartbeats 2000000 in
theorem strings_set_contains (b : Nat) (x : UInt8) (v : Bool) (w : World) (hc : w.cell? ⟨b, x.toNat, none⟩ = some (.bool v)) :
    Calls Tryd.prog 54 #[.pointer (some ⟨b, 0, none⟩), .int .u8 x.toNat] w fun e w' => e = .returned (.bool v) ∧ w' = w := by
 (have hx256 : (x.toNat : Int) < 256 := by have := UInt8.toNat_lt x; omega); (go_enter Tryd.func54, Tryd.ntmps54); go_wp2; go_ret; exact ⟨rfl, rfl⟩
set_option maxHeartbeats 4000000 in
set_option maxRecDepth 1000000 in
theorem strings_trimLeftASCII (s : ByteArray) (b : Nat) (cs : List UInt8) (w : World) (hset : ∀ x : UInt8, w.cell? ⟨b, x.toNat, none⟩ = some (.bool (cs.contains x))) :
    Calls Tryd.prog 42 #[.string s, .pointer (some ⟨b, 0, none⟩)] w fun e w' => e = .returned (.string ⟨(Lib.trimLeftS s.data.toList cs).toArray⟩) ∧ w' = w := by
 have HS := aM_ hset; clear hset; (go_enter Tryd.func42, Tryd.ntmps42); go_wp2; (go_loop [0] (fun v => ∃ k : Nat, k ≤ s.size ∧ v = .string ⟨(s.data.toList.drop k).toArray⟩ ∧ ∀ (j : Nat) b, j < k → s.data.toList[j]? = some b → cs.contains b = true) (fun v => Lib.strSize v))
 case atStart => exact ⟨0, Nat.zero_le _, by simp, fun j b hj => absurd hj (Nat.not_lt_zero _)⟩
 case round =>
  obtain ⟨k, hk, rfl, hc⟩ := hrel; (have hts : (⟨(s.data.toList.drop k).toArray⟩ : ByteArray).size = s.size - k := by rw [Lib.size_mk, List.length_drop, ← Lib.size_eq])
  have hb0 : ∀ h, s.data.toList[k]? = some ((⟨(s.data.toList.drop k).toArray⟩ : ByteArray)[0]'h) := by
   intro h; rw [← Lib.getElem_mk (s.data.toList.drop k) 0 h, List.getElem?_drop]; rfl
  have hx1 : (⟨(s.data.toList.drop k).toArray⟩ : ByteArray).extract 1 (s.size - k) = ⟨(s.data.toList.drop (k + 1)).toArray⟩ := by
   rw [Lib.extract_mk, List.drop_drop, List.take_of_length_le (by simp; omega)]
  have hK : Lib.Kept (∀ (j : Nat) b, j < k → s.data.toList[j]? = some b → cs.contains b = true) := hc; clear hc; generalize ht : (⟨(s.data.toList.drop k).toArray⟩ : ByteArray) = t at hts hb0 hx1 ⊢; have hK3 : Lib.Kept ((⟨(s.data.toList.drop k).toArray⟩ : ByteArray) = t) := ht; clear ht; (have hkl : Lib.Kept (k ≤ s.data.toList.length) := by rw [← Lib.size_eq]; exact hk); (by_cases h0 : 0 < t.size)
  · have hbk := hb0 h0
    clear hb0; have hK2 : Lib.Kept (s.data.toList[k]? = some (t[0]'h0)) := hbk; clear hbk; have hcx := HS.out (t[0]'h0); (cases hin : cs.contains (t[0]'h0) <;> rw [hin] at hcx)
    · have HI : Lib.Kept (cs.contains (t[0]'h0) = false) := hin
      clear hin; (go_wp2_with (go_at_call 54; refine (strings_set_contains _ (t[0]'h0) _ _ hcx).mono ?_; rintro e w' ⟨rfl, hw⟩; rw [hw])); go_ret; refine ⟨?_, rfl⟩; have ht' : (⟨(s.data.toList.drop k).toArray⟩ : ByteArray) = t := hK3; show Ending.returned (Value.string t) = _
      rw [Lib.trimLeftS_drop s.data.toList cs k hkl hK (fun b hb => by
       have h2 : s.data.toList[k]? = some (t[0]'h0) := hK2; rw [h2] at hb; rw [← Option.some.inj hb]
       exact HI), ht']
    (· have HI : Lib.Kept (cs.contains (t[0]'h0) = true) := hin; clear hin; (go_wp2_with (go_at_call 54; refine (strings_set_contains _ (t[0]'h0) _ _ hcx).mono ?_; rintro e w' ⟨rfl, hw⟩; rw [hw])); refine ⟨⟨k + 1, by omega, rfl, fun j b hj hb => ?_⟩, ?_⟩; (· (by_cases e : j = k); (· subst e; have h2 : s.data.toList[j]? = some (t[0]'h0) := hK2; (have h3 : s.data.toList[j]? = some b := by simpa using hb); rw [h2] at h3; rw [← Option.some.inj h3]; exact HI); (· exact hK j b (by omega) (by simpa using hb))); (· rw [Lib.strSize_string, Lib.strSize_string, Lib.size_mk, List.length_drop, ← Lib.size_eq]; omega))
  · clear hb0
    go_wp2; go_ret; refine ⟨?_, rfl⟩; have ht' : (⟨(s.data.toList.drop k).toArray⟩ : ByteArray) = t := hK3; show Ending.returned (Value.string t) = _
    rw [Lib.trimLeftS_drop s.data.toList cs k hkl hK (fun b hb => by
     (have : s.data.toList.length ≤ k := by rw [← Lib.size_eq]; omega)
     simp [List.getElem?_eq_none this] at hb), ht']
set_option maxHeartbeats 4000000 in
set_option maxRecDepth 1000000 in
theorem strings_trimRightASCII (s : ByteArray) (b : Nat) (cs : List UInt8) (w : World) (hs : s.size ≤ 9223372036854775807) (hset : ∀ x : UInt8, w.cell? ⟨b, x.toNat, none⟩ = some (.bool (cs.contains x))) :
    Calls Tryd.prog 43 #[.string s, .pointer (some ⟨b, 0, none⟩)] w fun e w' => e = .returned (.string ⟨(Lib.trimRightS s.data.toList cs).toArray⟩) ∧ w' = w := by
 have HS := aM_ hset; clear hset; (go_enter Tryd.func43, Tryd.ntmps43); go_wp2; (go_loop [0] (fun v => ∃ k : Nat, k ≤ s.size ∧ v = .string ⟨(s.data.toList.take k).toArray⟩ ∧ ∀ (j : Nat) b, k ≤ j → s.data.toList[j]? = some b → cs.contains b = true) (fun v => Lib.strSize v))
 case atStart =>
  refine ⟨s.size, Nat.le_refl _, ?_, fun j b hj hb => ?_⟩; (· rw [Lib.size_eq, List.take_length, Lib.mk_data]); (· (have : s.data.toList.length ≤ j := by rw [← Lib.size_eq]; exact hj); simp [List.getElem?_eq_none this] at hb)
 case round =>
  obtain ⟨k, hk, rfl, hc⟩ := hrel; (have hkl : k ≤ s.data.toList.length := by rw [← Lib.size_eq]; exact hk); (have hts : (⟨(s.data.toList.take k).toArray⟩ : ByteArray).size = k := by rw [Lib.size_mk, List.length_take]; omega)
  have hb0 : ∀ h, s.data.toList[k - 1]? = some ((⟨(s.data.toList.take k).toArray⟩ : ByteArray)[k - 1]'h) := by
   intro h; rw [← Lib.getElem_mk (s.data.toList.take k) (k - 1) h, List.getElem?_take]; rw [hts] at h; rw [if_pos h]
  have hx1 : (⟨(s.data.toList.take k).toArray⟩ : ByteArray).extract 0 (k - 1) = ⟨(s.data.toList.take (k - 1)).toArray⟩ := by
   rw [Lib.extract_mk, List.drop_zero, List.take_take]
   congr 3
   omega
  have hK : Lib.Kept (∀ (j : Nat) b, k ≤ j → s.data.toList[j]? = some b → cs.contains b = true) := hc; clear hc; have hkl' : Lib.Kept (k ≤ s.data.toList.length) := hkl; clear hkl; generalize ht : (⟨(s.data.toList.take k).toArray⟩ : ByteArray) = t at hts hb0 hx1 ⊢; have hK3 : Lib.Kept ((⟨(s.data.toList.take k).toArray⟩ : ByteArray) = t) := ht; clear ht; (by_cases h0 : 0 < k)
  · have h1 : k - 1 < t.size := by omega
    (have hwr : ((k : Int) - 1 + 9223372036854775808) % 18446744073709551616 - 9223372036854775808 = ((k - 1 : Nat) : Int) := by omega); have hbk := hb0 h1; clear hb0; have hK2 : Lib.Kept (s.data.toList[k - 1]? = some (t[k - 1]'h1)) := hbk; clear hbk; have hcx := HS.out (t[k - 1]'h1); (cases hin : cs.contains (t[k - 1]'h1) <;> rw [hin] at hcx)
    · have HI : Lib.Kept (cs.contains (t[k - 1]'h1) = false) := hin
      clear hin; (go_wp2_with (go_at_call 54; refine (strings_set_contains _ (t[k - 1]'h1) _ _ hcx).mono ?_; rintro e w' ⟨rfl, hw⟩; rw [hw])); go_ret; refine ⟨?_, rfl⟩; have ht' : (⟨(s.data.toList.take k).toArray⟩ : ByteArray) = t := hK3; show Ending.returned (Value.string t) = _
      rw [Lib.trimRightS_take s.data.toList cs k hkl' hK (fun b _ hb => by
       have h2 : s.data.toList[k - 1]? = some (t[k - 1]'h1) := hK2; rw [h2] at hb; rw [← Option.some.inj hb]
       exact HI), ht']
    (· have HI : Lib.Kept (cs.contains (t[k - 1]'h1) = true) := hin; clear hin; (go_wp2_with (go_at_call 54; refine (strings_set_contains _ (t[k - 1]'h1) _ _ hcx).mono ?_; rintro e w' ⟨rfl, hw⟩; rw [hw])); refine ⟨⟨k - 1, by omega, rfl, fun j b hj hb => ?_⟩, ?_⟩; (· (by_cases e : j = k - 1); (· subst e; have h2 : s.data.toList[k - 1]? = some (t[k - 1]'h1) := hK2; (have h3 : s.data.toList[k - 1]? = some b := by simpa using hb); rw [h2] at h3; rw [← Option.some.inj h3]; exact HI); (· exact hK j b (by omega) (by simpa using hb))); (· have hkl : k ≤ s.data.toList.length := hkl'; rw [Lib.strSize_string, Lib.strSize_string, Lib.size_mk, List.length_take]; omega))
  (· clear hb0; go_wp2; go_ret; refine ⟨?_, rfl⟩; have ht' : (⟨(s.data.toList.take k).toArray⟩ : ByteArray) = t := hK3; show Ending.returned (Value.string t) = _; rw [Lib.trimRightS_take s.data.toList cs k hkl' hK (fun b hk0 _ => absurd hk0 h0), ht'])
set_option maxHeartbeats 4000000 in
set_option maxRecDepth 1000000 in
theorem strings_makeASCIISet (chars : ByteArray) (w : World) (hs : chars.size < 4294967281)
    (hascii : ∀ (j : Nat) b, chars.data.toList[j]? = some b → b.toNat < 128) :
    Calls Tryd.prog 41 #[.string chars] w fun e w' => e = .returned (.tuple #[.agg (Lib.setCells chars.data.toList), .bool true]) ∧ w' = w.alloc (.cells (Lib.setCells chars.data.toList) 69) := by
 have HA := aM_ hascii; clear hascii; (have hi116 : (Tryd.prog.info? 69).map (·.size) = some 256 := by kernel_rfl); (go_enter Tryd.func41, Tryd.ntmps41); go_wp2; rw [show Tryd.zeroCells69 = Lib.setCells [] from by kernel_rfl]; (go_loopg [4] chars.size (fun g s4 wx => ∃ i : Nat, i + g = chars.size ∧ s4 = .int .i64 i ∧ wx = w.alloc (.cells (Lib.setCells (chars.data.toList.take i)) 69)))
 case atStart => exact ⟨0, by omega, rfl, rfl⟩
 case round =>
  obtain ⟨i, hig, rfl, rfl⟩ := hrel
  cases gk with
  | zero =>
   (obtain rfl : i = chars.size := by omega); (have hiz : ¬ ((chars.size : Int) < (chars.size : Int)) := by omega); rw [show chars.data.toList.take chars.size = chars.data.toList from List.take_of_length_le (by rw [← Lib.size_eq]; exact Nat.le_refl _)]; have hsz := Lib.setCells_size chars.data.toList; have hld := run_loadVar_new (P := Tryd.prog) w 69 (Lib.setCells chars.data.toList) 256 4 Tryd.underlying69 (by rw [hsz]; exact hi116); have hst := run_storeVar_row (P := Tryd.prog) (w.alloc (.cells (Lib.setCells chars.data.toList) 69)) w.heap.size 69 69 _ (Lib.setCells chars.data.toList) (heap_alloc_last w _) (by rw [hsz]; exact hi116) rfl (Lib.setCells_one _); rw [World.setRow_alloc_new] at hst; have HLD := aM_ hld; have HST := aM_ hst; clear hld hst; (go_upto_region 8 with (fail)); refine wp_region_lit ?_; refine Kd.event_run (v := .agg (Lib.setCells chars.data.toList)) rfl (loadRow_run HLD.out rfl) ?_; refine store_event rfl rfl rfl (storeRow_run HST.out rfl rfl) ?_; intro w18 hw; subst hw; go_wp2; refine bodyPost_ret (v := .tuple #[.agg (Lib.setCells chars.data.toList), .bool true]) ?_ rfl ⟨rfl, rfl⟩; rw [results_cell_tmp rfl]; simp [asAddr, Result.andThen, HLD.out]
  | succ g =>
   (have hi : i < chars.size := by omega); (have hiz : (i : Int) < (chars.size : Int) := by omega); obtain ⟨x, hx⟩ : ∃ x : UInt8, chars[i]'hi = x := ⟨_, rfl⟩; (have hxl : chars.data.toList[i]? = some x := by rw [← hx]; exact Lib.data_getElem? chars i hi); (have hx128 : ¬ ((128 : Int) ≤ (x.toNat : Int)) := by have := HA.out i x hxl; omega); (have hx256 : (x.toNat : Int) < 256 := by have := HA.out i x hxl; omega); have hcell := Lib.setCells_at (chars.data.toList.take i) x; have Hx := aM_ hxl; clear hxl; go_wp2; (go_roundg g)
   case measure => omega
   case rel => exact ⟨i + 1, by omega, by first | rfl | simp, by rw [List.take_add_one, Hx.out]; simp only [Option.toList]; rw [Lib.setCells_snoc]⟩
set_option maxHeartbeats 8000000 in
set_option maxRecDepth 1000000 in
theorem strings_Trim_digs (s : ByteArray) (w : World) (h0 : 0 < s.size) (hs : s.size ≤ 9223372036854775807) :
    Calls Tryd.prog 24 #[.string s, .string ⟨#[48, 49, 50, 51, 52, 53, 54, 55, 56, 57, 97, 98, 99, 100, 101, 102]⟩] w fun e w' => e = .returned (.string ⟨(Lib.trimS s.data.toList digs).toArray⟩) ∧ Below w.heap.size w w' := by
 have hM := aM_ (show Calls Tryd.prog 41 #[.string ⟨#[48, 49, 50, 51, 52, 53, 54, 55, 56, 57, 97, 98, 99, 100, 101, 102]⟩] w fun e w' => e = .returned (.tuple #[.agg (Lib.setCells digs), .bool true]) ∧ w' = w.alloc (.cells (Lib.setCells digs) 69) from strings_makeASCIISet ⟨#[48, 49, 50, 51, 52, 53, 54, 55, 56, 57, 97, 98, 99, 100, 101, 102]⟩ w (by decide) digs_ascii)
 have hemps : s.toList.isEmpty = false := by
  rw [Lib.toList_data]
  cases h : s.data.toList with
  | nil => have := Lib.size_eq s; rw [h, List.length_nil] at this; omega
  | cons _ _ => rfl
 (have hzs : Tryd.zeroCells69.size = 256 := by kernel_rfl); have hss := Lib.setCells_size digs
 have hnew : ∀ (Z : Array Value), ((w.alloc (.cells (Lib.setCells digs) 69)).alloc (.cells Z 69)).heap[w.heap.size + 1]? = some (.cells Z 69 (0, 0)) := fun Z => by
  have := blk_new (w.alloc (.cells (Lib.setCells digs) 69)) (.cells Z 69); rwa [show (w.alloc (.cells (Lib.setCells digs) 69)).heap.size = w.heap.size + 1 by simp] at this
 have HN := aM_ hnew; have HZ := aM_ (show Tryd.zeroCells69.size = (Lib.setCells digs).size by rw [hzs, hss]); have HI := aM_ (show (Tryd.prog.info? 69).map (·.size) = some (Lib.setCells digs).size by rw [hss]; kernel_rfl); have HB : Aside0 (∀ W : World, W.heap.size = w.heap.size + 1 + 1 → Below w.heap.size w W → Below w.heap.size w (W.setRow (w.heap.size + 1) (Lib.setCells digs))) := ⟨fun W hW hb => hb.trans ⟨rfl, rfl, rfl, by simp, fun k hk => setRow_other W (w.heap.size + 1) k _ (by omega)⟩⟩; clear hnew hzs hss; (have hset : ∀ (W : World), (W.heap[w.heap.size + 1]? = some (.cells (Lib.setCells digs) 69 (0, 0))) → ∀ x : UInt8, W.cell? ⟨w.heap.size + 1, x.toNat, none⟩ = some (.bool (digs.contains x)) := fun W hW x => by rw [blk_cell hW, Lib.setCells_at]); have HS := aM_ hset; clear hset; (go_enter Tryd.func24, Tryd.ntmps24); (go_wp2_with (first | (go_at_call 41; refine hM.out.mono ?_; rintro e w' ⟨rfl, hw⟩; rw [hw]) | (refine wpList_store_row rfl 69 (.tmp 5) (.tmp 32) rfl (w.heap.size + 1) (Lib.setCells digs) rfl rfl 69 _ (HN.out _) HI.out HZ.out (Lib.setCells_one _) ?_; have hblk := setRow_heap _ _ _ (Lib.setCells digs) _ _ (HN.out Tryd.zeroCells69); have HBK := aM_ hblk; clear hblk; have hbl := HB.out _ (by simp) (((Below.refl _ _).alloc (Nat.le_refl _) (.cells (Lib.setCells digs) 69)).alloc (by simp) (.cells Tryd.zeroCells69 69)); have HBL := aM_ hbl; clear hbl; generalize (((w.alloc (.cells (Lib.setCells digs) 69)).alloc (.cells Tryd.zeroCells69 69)).setRow (w.heap.size + 1) (Lib.setCells digs)) = w5 at HBK HBL ⊢) | (go_at_call 43; refine (strings_trimRightASCII s (w.heap.size + 1) digs _ hs (HS.out _ HBK.out)).mono ?_; rintro e w' ⟨rfl, hw⟩; rw [hw]) | (go_at_call 42; refine (strings_trimLeftASCII _ (w.heap.size + 1) digs _ (HS.out _ HBK.out)).mono ?_; rintro e w' ⟨rfl, hw⟩; rw [hw]))); go_ret; exact ⟨rfl, HBL.out⟩
set_option maxHeartbeats 1000000 in
theorem stringslite_IndexByte_any (s : ByteArray) (c : Int) (w : World) :
    Calls Tryd.prog 46 #[.string s, .int .u8 c] w fun e w' => e = .returned (.int .i64 (Lib.indexByte s.data.toList c.toNat.toUInt8)) ∧ w' = w := by
 (go_enter Tryd.func46, Tryd.ntmps46); go_wp2; rw [run_callFunc_extern Tryd.func58 (by kernel_rfl) (by kernel_rfl) (by kernel_rfl) (e := Extern.BytealgIndexByte.indexByte) (by kernel_rfl), Lib.run_indexByteString]; simp only [Result.andThen]; rw [Oper.upon_value]; go_wp2; go_ret; exact ⟨rfl, rfl⟩
set_option maxHeartbeats 1000000 in
theorem strings_IndexByte_any (s : ByteArray) (c : Int) (w : World) :
    Calls Tryd.prog 25 #[.string s, .int .u8 c] w fun e w' => e = .returned (.int .i64 (Lib.indexByte s.data.toList c.toNat.toUInt8)) ∧ w' = w := by
 (go_enter Tryd.func25, Tryd.ntmps25); (go_wp2_with (go_at_call 46; refine (stringslite_IndexByte_any s c _).mono ?_; rintro e w' ⟨rfl, rfl⟩)); go_ret; exact ⟨rfl, rfl⟩
def key_Bytes.f (a0 : ByteArray) : Option (List Int × Int) := if isKey a0 then some (keyRow a0, 0) else some ([], 70)
def setIter (W : World) (g : Nat) (s : ByteArray) (pos : Nat) : World := { W with heap := W.heap.setIfInBounds g (.stringIter s pos) }
theorem setIter_other (W : World) (g k : Nat) (s : ByteArray) (pos : Nat) (h : k ≠ g) : (setIter W g s pos).heap[k]? = W.heap[k]? := by
 simp [setIter, Array.getElem?_setIfInBounds_ne (Ne.symm h)]
theorem setIter_same (W : World) (g : Nat) (s : ByteArray) (pos : Nat) (h : g < W.heap.size) : (setIter W g s pos).heap[g]? = some (.stringIter s pos) := by
 simp [setIter, h]
theorem setIter_below {B g : Nat} {w0 W : World} (hb : Below B w0 W) (h : B ≤ g) (s : ByteArray) (pos : Nat) : Below B w0 (setIter W g s pos) :=
  hb.trans ⟨rfl, rfl, rfl, by simp [setIter], fun k hk => setIter_other W g k s pos (by omega)⟩
theorem run_next_at {P : Program} (W : World) (g : Nat) (s : ByteArray) (pos : Nat) (ty : TypeId) (hg : W.heap[g]? = some (.stringIter s pos)) (h : pos < s.size) (ha : (s[pos]'h).toNat < 128) :
    (Instr.next (.pointer (some ⟨g, 0, none⟩)) true ty).run P W = .ok (.tuple #[.bool true, .int .i64 pos, .int .i32 (s[pos]'h).toNat]) (setIter W g s (pos + 1)) := by
 simp only [Instr.next, getObj, setObj, Sem.run_bind, Sem.run, hg, Result.andThen, h, if_true, decode_ascii s pos h ha]; simp [goInt, Sem.run, hg, setIter]
theorem run_next_over {P : Program} (W : World) (g : Nat) (s : ByteArray) (pos : Nat) (ty : TypeId) (hg : W.heap[g]? = some (.stringIter s pos)) (h : ¬ pos < s.size) :
    (Instr.next (.pointer (some ⟨g, 0, none⟩)) true ty).run P W = .ok (.tuple #[.bool false]) W := by
 simp [Instr.next, getObj, Sem.run, hg, h]
set_option maxHeartbeats 8000000 in
set_option maxRecDepth 100000 in
theorem key_Bytes_no1 (a0 : ByteArray) (w : World) (h : a0.size ≠ 64) :
    Calls Tryd.prog 8 #[.string a0] w fun e w' => e = .returned (.tuple #[.slice none 0 0, .int .i64 70]) ∧ Below w.heap.size w w' := by
 have hb0 : ((a0.size : Int) == 64) = false := beq_eq_false_iff_ne.mpr (by omega); (have hb : ((a0.size : Int) != 64) = true := by rw [bne, hb0]; rfl); (have h1 : ¬ ((a0.size : Int) = 64) := by omega); (go_enter Tryd.func8, Tryd.ntmps8); go_wp2; (go_ret2); exact ⟨rfl, Below.refl _ _⟩
set_option maxHeartbeats 8000000 in
set_option maxRecDepth 100000 in
theorem key_Bytes_no2 (a0 : ByteArray) (w : World) (h : a0.size = 64) (hn : a0.data.toList.all (digs.contains ·) = false) :
    Calls Tryd.prog 8 #[.string a0] w fun e w' => e = .returned (.tuple #[.slice none 0 0, .int .i64 70]) ∧ Below w.heap.size w w' := by
 have hb0 : ((a0.size : Int) == 64) = true := beq_iff_eq.mpr (by omega); (have hb : ((a0.size : Int) != 64) = false := by rw [bne, hb0]; rfl); (have h1 : ((a0.size : Int) = 64) := by omega); have hT := strings_Trim_digs a0 w (by omega) (by omega)
 have he : ∀ t : ByteArray, t = ⟨(Lib.trimS a0.data.toList digs).toArray⟩ → t.toList.isEmpty = false := by
  rintro t rfl; rw [Lib.toList_data]
  cases hc : Lib.trimS a0.data.toList digs with
  | nil => rw [trimS_empty] at hc; rw [hc] at hn; cases hn
  | cons x y => rfl
 generalize (⟨(Lib.trimS a0.data.toList digs).toArray⟩ : ByteArray) = t at hT he; have he2 := he t rfl; (have he3 : (!t.toList.isEmpty) = true := by rw [he2]; rfl); have HT := aM_ hT; clear he hT hn h; (go_enter Tryd.func8, Tryd.ntmps8); (go_wp2_with (go_at_call 24; refine HT.out.mono ?_; rintro e w' ⟨rfl, hb⟩; have HB := aM_ hb; clear hb)); (go_ret2); exact ⟨rfl, HB.out⟩
set_option maxHeartbeats 8000000 in
set_option maxRecDepth 100000 in
theorem key_Bytes_yes (a0 : ByteArray) (w : World) (h : a0.size = 64) (hn : a0.data.toList.all (digs.contains ·) = true) :
    Calls Tryd.prog 8 #[.string a0] w fun e w' => ∃ v, e = .returned (.tuple #[v, .int .i64 0]) ∧ Kd.R (Kd.int .u8) 5 w' w.heap.size (fun _ => True) v (keyRow a0) ∧ Below w.heap.size w w' := by
 have hb0 : ((a0.size : Int) == 64) = true := beq_iff_eq.mpr (by omega); (have hb : ((a0.size : Int) != 64) = false := by rw [bne, hb0]; rfl); (have h1 : ((a0.size : Int) = 64) := by omega); have hT := strings_Trim_digs a0 w (by omega) (by omega)
 have he : ∀ t : ByteArray, t = ⟨(Lib.trimS a0.data.toList digs).toArray⟩ → t.toList.isEmpty = true := by
  rintro t rfl; rw [Lib.toList_data, (trimS_empty _ _).2 hn]; rfl
 generalize (⟨(Lib.trimS a0.data.toList digs).toArray⟩ : ByteArray) = t at hT he; have he2 := he t rfl; (have he3 : (!t.toList.isEmpty) = false := by rw [he2]; rfl); have HT := aM_ hT; have HN := aM_ hn; have HS := aM_ h; (have hmk : ∀ (w : World), (Instr.makeSlice 22 (.int .i64 32) (.int .i64 32)).run Tryd.prog w = .ok (.slice (some ⟨w.heap.size, 0, none⟩) 32 32) (w.alloc (.cells ((keyAt a0.data.toList 0).map (Value.int .u8)).toArray 5)) := fun w => by rw [keyAt_zero]; kernel_rfl); clear he hT hn h; (go_enter Tryd.func8, Tryd.ntmps8); (go_wp2_with (go_at_call 24; refine HT.out.mono ?_; rintro e w5 ⟨rfl, hb⟩; have HB := aM_ hb; clear hb)); (go_loopg [5] 64 (fun g v5 wr => ∃ i : Nat, i + g = 64 ∧ Aside0 (wr.heap[w5.heap.size]? = some (.cells ((keyAt a0.data.toList i).map (Value.int .u8)).toArray 5 (0, 0))) ∧ Aside0 (wr.heap[w5.heap.size + 1]? = some (.stringIter a0 i)) ∧ Aside0 (Below w.heap.size w wr)))
 case atStart =>
  refine ⟨0, by omega, ⟨?_⟩, ⟨?_⟩, ⟨?_⟩⟩; (· have := blk_new w5 (.cells ((keyAt a0.data.toList 0).map (Value.int .u8)).toArray 5); exact blk_alloc this _); (· have := World.iter_heap (w5.alloc (.cells ((keyAt a0.data.toList 0).map (Value.int .u8)).toArray 5)) a0 0; (simpa using this)); (· exact (HB.out.alloc HB.out.size _).alloc (by have := HB.out.size; simp; omega) _)
 case round =>
  obtain ⟨i, hig, HX, HI, HB2⟩ := hrel; clear HT; have HG := HX.out
  cases gk with
  | zero =>
   (obtain rfl : i = 64 := by omega); have hnx : ∀ ty, (Instr.next (.pointer (some ⟨w5.heap.size + 1, 0, none⟩)) true ty).run Tryd.prog wr = _ := fun ty => run_next_over wr (w5.heap.size + 1) a0 64 ty HI.out (by have := HS.out; omega); clear HG; go_wp2; (go_ret2); refine ⟨_, rfl, ?_, HB2.out⟩; have hl : (keyRow a0).length = 32 := keyAt_length _ _; refine Kd.R_of_own (h1 := fun _ => rfl) ⟨by rw [encs_length, Nat.mul_one], .inr ⟨_, 32, _, by rw [hl]; rfl, HB.out.size, HX.out, by rw [hl]; decide, by simp [maxLen], by simp [keyAt_length], ?_⟩⟩ (fun _ _ => trivial); rw [hl, List.take_of_length_le (by simp [keyAt_length])]; rfl
  | succ g =>
   (have hi : i < a0.size := by have := HS.out; omega); obtain ⟨x, hx⟩ : ∃ x : UInt8, a0[i]'hi = x := ⟨_, rfl⟩; (have hxl : a0.data.toList[i]? = some x := by rw [← hx]; exact Lib.data_getElem? a0 i hi); have hxd : digs.contains x = true := List.all_eq_true.1 HN.out x (List.mem_of_getElem? hxl); have hnx : ∀ ty, (Instr.next (.pointer (some ⟨w5.heap.size + 1, 0, none⟩)) true ty).run Tryd.prog wr = _ := fun ty => run_next_at wr (w5.heap.size + 1) a0 i ty HI.out hi (by rw [hx]; exact digs_low x hxd); have HXD := aM_ hxd; have HXL := aM_ hxl; have hq := dg_range x hxd; obtain ⟨q, hqe⟩ : ∃ q : Int, dg x = q := ⟨_, rfl⟩; rw [hqe] at hq; obtain ⟨q0, q1⟩ := hq
   have HIX := aM_ (show Calls Tryd.prog 25 #[.string ⟨#[48, 49, 50, 51, 52, 53, 54, 55, 56, 57, 97, 98, 99, 100, 101, 102]⟩, .int .u8 x.toNat] (setIter wr (w5.heap.size + 1) a0 (i + 1)) fun e w' => e = .returned (.int .i64 q) ∧ w' = setIter wr (w5.heap.size + 1) a0 (i + 1) from by
    have := strings_IndexByte_any ⟨#[48, 49, 50, 51, 52, 53, 54, 55, 56, 57, 97, 98, 99, 100, 101, 102]⟩ (x.toNat : Int) (setIter wr (w5.heap.size + 1) a0 (i + 1)); rw [show Lib.indexByte (⟨#[48, 49, 50, 51, 52, 53, 54, 55, 56, 57, 97, 98, 99, 100, 101, 102]⟩ : ByteArray).data.toList (x.toNat : Int).toNat.toUInt8 = q by rw [← hqe]; simp [dg, digs]] at this
    exact this)
   have HQ := aM_ hqe; have hX2 : (setIter wr (w5.heap.size + 1) a0 (i + 1)).heap[w5.heap.size]? = some (.cells ((keyAt a0.data.toList i).map (Value.int .u8)).toArray 5 (0, 0)) := (setIter_other _ _ _ _ _ (by omega)).trans HX.out; have HX2 := aM_ hX2; have HI2 := aM_ (setIter_same wr (w5.heap.size + 1) a0 (i + 1) (blk_lt HI.out)); have HB3 : Aside0 (Below w.heap.size w (setIter wr (w5.heap.size + 1) a0 (i + 1))) := ⟨setIter_below HB2.out (by have := HB.out.size; omega) a0 (i + 1)⟩; clear hxl hxd HG hX2 hqe
   rcases (show ∃ m, i = 2 * m ∨ i = 2 * m + 1 from ⟨i / 2, by omega⟩) with ⟨m, hm | hm⟩
   · have hm32 : m < 32 := by omega
     (have e1 : (i : Int) / 2 = (m : Int) := by omega); (have e2 : (i : Int) % 2 = 0 := by omega)
     have hc : (setIter wr (w5.heap.size + 1) a0 (i + 1)).cell? ⟨w5.heap.size, m, none⟩ = some (.int .u8 0) := by
      rw [blk_cell HX2.out, hm]; simp [keyAt_get, hm32]; omega
     have hf : (setIter wr (w5.heap.size + 1) a0 (i + 1)).frozen? ⟨w5.heap.size, m, none⟩ = false := blk_frozen HX2.out _; have HM := aM_ hm; (have im0 : (0 : Int) ≤ (m : Int) := by omega); (have im1 : (m : Int) < 32 := by omega); clear hm; (go_wp2_with (go_at_call 25; refine HIX.out.mono ?_; rintro e w' ⟨rfl, hw⟩; rw [hw])); (go_region)
     all_goals
       go_wp2
       go_roundg g
       case measure => omega
       case rel =>
         refine ⟨i + 1, by omega, ⟨?_⟩, ⟨?_⟩, ⟨?_⟩⟩
         · rw [or_even q q0 q1]
           refine (blk_set HX2.out m (.int .u8 (16 * q))).trans ?_
           rw [keyCells_set _ _ (i + 1) m _ (by have h1 := keyAt_even a0.data.toList m hm32; rw [← HM.out] at h1; rw [← h1, List.getD_eq_getElem?_getD, HXL.out, ← HQ.out]; rfl)]
         · exact (Below.heap_setCell _ ⟨w5.heap.size, m, none⟩ _ (w5.heap.size + 1) (by simp)).trans HI2.out
         · exact bD_ (HB3.out.setCell (by have := HB.out.size; exact this) _)
   · have hm32 : m < 32 := by omega
     (have e1 : (i : Int) / 2 = (m : Int) := by omega); (have e2 : (i : Int) % 2 = 1 := by omega); obtain ⟨y, hy⟩ : ∃ y : UInt8, a0.data.toList.getD (2 * m) 0 = y := ⟨_, rfl⟩
     have hyd : digs.contains y = true := by
      (have hlt : 2 * m < a0.data.toList.length := by rw [← Lib.size_eq, HS.out]; omega); rw [List.getD_eq_getElem?_getD, List.getElem?_eq_getElem hlt] at hy; exact List.all_eq_true.1 HN.out y (by rw [← hy]; exact List.getElem_mem hlt)
     obtain ⟨p0, p1⟩ := dg_range y hyd
     have hc : (setIter wr (w5.heap.size + 1) a0 (i + 1)).cell? ⟨w5.heap.size, m, none⟩ = some (.int .u8 (16 * dg y)) := by
      rw [blk_cell HX2.out, hm]; rw [List.getElem?_toArray, List.getElem?_map, keyAt_get _ _ _ hm32, if_pos (by omega), if_neg (by omega), hy]; simp
     have hf : (setIter wr (w5.heap.size + 1) a0 (i + 1)).frozen? ⟨w5.heap.size, m, none⟩ = false := blk_frozen HX2.out _; have HM := aM_ hm; have HY := aM_ hy; (have im0 : (0 : Int) ≤ (m : Int) := by omega); (have im1 : (m : Int) < 32 := by omega); clear hm hy hyd; (go_wp2_with (go_at_call 25; refine HIX.out.mono ?_; rintro e w' ⟨rfl, hw⟩; rw [hw])); (go_region)
     all_goals
       go_wp2
       go_roundg g
       case measure => omega
       case rel =>
         refine ⟨i + 1, by omega, ⟨?_⟩, ⟨?_⟩, ⟨?_⟩⟩
         · rw [or_odd (dg y) q p0 p1 q0 q1]
           refine (blk_set HX2.out m (.int .u8 (16 * dg y + q))).trans ?_
           rw [keyCells_set _ _ (i + 1) m _ (by have h1 := keyAt_odd a0.data.toList m hm32; rw [← HM.out] at h1; rw [← h1, HY.out, List.getD_eq_getElem?_getD, HXL.out, ← HQ.out]; rfl)]
         · exact (Below.heap_setCell _ ⟨w5.heap.size, m, none⟩ _ (w5.heap.size + 1) (by simp)).trans HI2.out
         · exact bD_ (HB3.out.setCell (by have := HB.out.size; exact this) _)
theorem key_Bytes.calls (a0 : ByteArray) (r1 : List Int) (r2 : Int) (w : World) (h : key_Bytes.f a0 = some (r1, r2)) :
    Calls Tryd.prog 8 #[.string a0] w fun e w' => ∃ v0_ : Value, e = .returned (.tuple #[v0_, .int .i64 r2]) ∧ Kd.R (Kd.int .u8) 5 w' w.heap.size (fun _ => True) v0_ r1 ∧ Below w.heap.size w w' := by
 unfold key_Bytes.f at h; (by_cases hs : a0.size = 64); (· (by_cases hn : a0.data.toList.all (digs.contains ·) = true); (· (have hk : isKey a0 = true := by unfold isKey; rw [hn, decide_eq_true hs]; rfl); rw [if_pos hk] at h; simp only [Option.some.injEq, Prod.mk.injEq] at h; obtain ⟨rfl, rfl⟩ := h; exact key_Bytes_yes a0 w hs hn); (· have hn' := Bool.eq_false_iff.mpr hn; (have hk : ¬ isKey a0 = true := by unfold isKey; rw [hn', Bool.and_false]; decide); rw [if_neg hk] at h; simp only [Option.some.injEq, Prod.mk.injEq] at h; obtain ⟨rfl, rfl⟩ := h; refine (key_Bytes_no2 a0 w hs hn').mono ?_; rintro e w' ⟨rfl, hb⟩; exact ⟨_, rfl, Kd.R_nil _ _ _ _ _, hb⟩)); (· (have hk : ¬ isKey a0 = true := by unfold isKey; rw [decide_eq_false hs, Bool.false_and]; decide); rw [if_neg hk] at h; simp only [Option.some.injEq, Prod.mk.injEq] at h; obtain ⟨rfl, rfl⟩ := h; refine (key_Bytes_no1 a0 w hs).mono ?_; rintro e w' ⟨rfl, hb⟩; exact ⟨_, rfl, Kd.R_nil _ _ _ _ _, hb⟩)
end
def key_From.f (k : Nat) (l0 : List Int) : Option (ByteArray × Int) := if (l0.length : Int) = 32 then ((key_text.f k l0).bind fun t174 => (some (t174, 0))) else (some ((⟨#[]⟩ : ByteArray), 70))
theorem key_From.mono : ∀ a0 k, LeO (key_From.f k a0) (key_From.f (k + 1) a0) := by
 intro a0 k; unfold key_From.f
 repeat' first
     | (with_reducible exact key_text.mono _ _)
     | (with_reducible exact LeO.refl _)
     | (with_reducible exact LeO.none _)
     | (with_reducible refine LeO.ite ?_ ?_)
     | (with_reducible refine LeO.bind ?_ (fun _ => ?_))
     | exact LeO.none _
     | refine LeO.ite ?_ ?_
     | refine LeO.bind ?_ (fun _ => ?_)
set_option maxHeartbeats 8000000 in
set_option maxRecDepth 100000 in
theorem key_From.calls (k : Nat) (A0 : Option Addr) (c0 : Nat) (l0 : List Int) (r1 : ByteArray) (r2 : Int) (w : World) (hr0 : Kd.C (Kd.int .u8) w A0 l0.length l0) (hc0 : l0.length ≤ c0) (h : key_From.f k l0 = some (r1, r2)) :
    Calls Tryd.prog 10 #[.slice A0 l0.length c0] w fun e w' => e = .returned (.tuple #[.string r1, .int .i64 r2]) ∧ Below w.heap.size w w' := by
 have HR0 := aM_ hr0; have HC0 := aM_ hc0; clear hr0 hc0; have HB := aM_ (Below.refl w.heap.size w); have H : (if (l0.length : Int) = 32 then ((key_text.f k l0).bind fun t174 => (some (t174, 0))) else (some ((⟨#[]⟩ : ByteArray), 70))) = some (r1, r2) := h; clear h; (by_cases c2 : (l0.length : Int) = 32); (· rw [if_pos c2] at H; have c2b0 : ((l0.length : Int) == 32) = true := beq_iff_eq.mpr c2; have c2b1 : ((l0.length : Int) != 32) = false := bne_eq_false_iff_eq.mpr c2; clear c2; replace H := Option.bind_eq_some_iff.mp H; obtain ⟨t174, A30, H⟩ := H; replace H : (some (t174, 0)) = some (r1, r2) := H; have A3 := aM_ A30; clear A30; simp only [Option.some.injEq, Prod.mk.injEq] at H; obtain ⟨rfl, rfl⟩ := H; (go_enter Tryd.func10, Tryd.ntmps10); (go_wp2_with (first | ((with_reducible refine gate_callee (f := 20) rfl ?_); refine goesL_ (some 8) rfl rfl Tryd.func20 (by kernel_rfl) rfl #[.slice A0 l0.length c0] rfl (by (try simp only [List.map_toArray, List.map_cons, List.map_nil]); first | done | rfl | (simp only [List.length_drop, List.length_take]; rfl)) ?_; (with_reducible refine (key_text.calls k _ _ l0 t174 _ ?side1 ?side2 A3.out).mono ?_); (case side1 => repeat (first | exact HR0.out | (with_reducible refine Kd.C_alloc ?_ _) | (with_reducible refine Kd.C_drewN ?_ _) | (with_reducible refine Kd.C_drew ?_))); (case side2 => exact HC0.out); rintro e w4 ⟨rfl, hb⟩; refine ⟨_, rfl, ?_⟩; have n0_ := aM_ (below_step (by repeat (first | (with_reducible first | exact HB.out | apply bA_ | apply bN_ | apply bD_) | exact HB.out)) hb); clear HB; have HB := n0_; clear n0_; (try clear hb); (try clear hb2); (try clear hk); (try clear hi)))); (go_ret2); (exact ⟨by first | rfl | (simp [errW_none, errW_some] <;> rfl) | (simp [*, errW_none, errW_some] <;> rfl), by repeat (first | (with_reducible first | exact HB.out | apply bA_ | apply bN_ | apply bD_) | exact HB.out)⟩)); (· rw [if_neg c2] at H; have c2b0 : ((l0.length : Int) == 32) = false := beq_eq_false_iff_ne.mpr c2; have c2b1 : ((l0.length : Int) != 32) = true := bne_iff_ne.mpr c2; simp only [Option.some.injEq, Prod.mk.injEq] at H; obtain ⟨rfl, rfl⟩ := H; (go_enter Tryd.func10, Tryd.ntmps10); go_wp2; (go_ret2); (exact ⟨by first | rfl | (simp [errW_none, errW_some] <;> rfl) | (simp [*, errW_none, errW_some] <;> rfl), by repeat (first | (with_reducible first | exact HB.out | apply bA_ | apply bN_ | apply bD_) | exact HB.out)⟩))
def q07_Same.l0 : Nat → List ByteArray → List ByteArray → Int → Option (Bool)
  | 0, _, _, _ => none
  | k + 1, x0, x1, x5 => if x5 < (x0.length : Int) then (if 0 ≤ x5 then (if x5 < (x1.length : Int) then (if (rdOf ByteArray.empty x0 x5).toList = (rdOf ByteArray.empty x1 x5).toList then (q07_Same.l0 k x0 x1 (wrap64 (x5 + 1))) else (some false)) else (none)) else (none)) else (some true)
def q07_Same.f (k : Nat) (l0 : List ByteArray) (l1 : List ByteArray) : Option (Bool) := if (l0.length : Int) = (l1.length : Int) then (q07_Same.l0 k l0 l1 0) else (some false)
theorem q07_Same.mono_l : ∀ k, (∀ y0 y1 y2, LeO (q07_Same.l0 k y0 y1 y2) (q07_Same.l0 (k + 1) y0 y1 y2))
  | 0 => fun _ _ _ r h => by simp [q07_Same.l0] at h
  | k + 1 => by
    have ih0 := q07_Same.mono_l k
    · intro y0 y1 y2
      unfold q07_Same.l0
      repeat' first
      | (with_reducible exact ih0 _ _ _)
      | (with_reducible exact LeO.refl _)
      | (with_reducible exact LeO.none _)
      | (with_reducible refine LeO.ite ?_ ?_)
      | (with_reducible refine LeO.bind ?_ (fun _ => ?_))
      | exact ih0 _ _ _
      | exact LeO.none _
      | refine LeO.ite ?_ ?_
      | refine LeO.bind ?_ (fun _ => ?_)
theorem q07_Same.mono : ∀ a0 a1 k, LeO (q07_Same.f k a0 a1) (q07_Same.f (k + 1) a0 a1) := by
 intro a0 a1 k; have ih0 := q07_Same.mono_l k; unfold q07_Same.f
 repeat' first
     | (with_reducible exact ih0 _ _ _)
     | (with_reducible exact LeO.refl _)
     | (with_reducible exact LeO.none _)
     | (with_reducible refine LeO.ite ?_ ?_)
     | (with_reducible refine LeO.bind ?_ (fun _ => ?_))
     | exact ih0 _ _ _
     | exact LeO.none _
     | refine LeO.ite ?_ ?_
     | refine LeO.bind ?_ (fun _ => ?_)
set_option maxHeartbeats 8000000 in
set_option maxRecDepth 100000 in
theorem q07_Same.calls (k : Nat) (A0 : Option Addr) (c0 : Nat) (l0 : List ByteArray) (A1 : Option Addr) (c1 : Nat) (l1 : List ByteArray) (r : Bool) (w : World) (hr0 : Kd.C Kd.string w A0 l0.length l0) (hc0 : l0.length ≤ c0) (hr1 : Kd.C Kd.string w A1 l1.length l1) (hc1 : l1.length ≤ c1) (h : q07_Same.f k l0 l1 = some r) :
    Calls Tryd.prog 17 #[.slice A0 l0.length c0, .slice A1 l1.length c1] w fun e w' => e = .returned (.bool r) ∧ Drawn0 w w' := by
 have HR0 := aM_ hr0; have HC0 := aM_ hc0; clear hr0 hc0; have HR1 := aM_ hr1; have HC1 := aM_ hc1; clear hr1 hc1; have H : (if (l0.length : Int) = (l1.length : Int) then (q07_Same.l0 k l0 l1 0) else (some false)) = some r := h; clear h; (by_cases c3 : (l0.length : Int) = (l1.length : Int))
 · rw [if_pos c3] at H
   have c3b0 : ((l0.length : Int) == (l1.length : Int)) = true := beq_iff_eq.mpr c3; have c3b1 : ((l0.length : Int) != (l1.length : Int)) = false := bne_eq_false_iff_eq.mpr c3; (have c3b2 : (l0.length == l1.length) = true := by first | simpa using c3 | (simp at c3 ⊢; omega)); clear c3; have H' := aM_ H; clear H; (go_enter Tryd.func17, Tryd.ntmps17); go_wp2
   repeat (go_quiet (fail); try go_wp2)
   (go_loopg [5] k (fun kq v5 w' => ∃ (x5_1 : Int), v5 = .int .i64 x5_1 ∧ Aside0 (q07_Same.l0 kq l0 l1 x5_1 = some r) ∧ Aside0 (kq ≤ k) ∧ Drawn0 w w'))
   case atStart => exact ⟨(0), (by first | rfl | (simp; done) | (simp [*]; done)), H', ⟨Nat.le_refl _⟩, by repeat (first | exact Drawn0.refl _ | apply Drawn0.step)⟩
   case round =>
    clear H'; (try clear c1); (try clear p2); (try clear c3); (try clear c3b0); (try clear c3b1); (try clear c3b2); obtain ⟨x5_1, rfl, HA, HK1, ⟨m1, rfl⟩⟩ := hrel
    cases gk with
    | zero => exact absurd HA.out (by simp [q07_Same.l0])
    | succ k1 =>
     have H := HA.out; clear HA; simp only [q07_Same.l0] at H; (by_cases c4 : x5_1 < (l0.length : Int))
     · rw [if_pos c4] at H
       have c4b0 : decide (x5_1 < (l0.length : Int)) = true := decide_eq_true c4; clear c4; (by_cases c5 : 0 ≤ x5_1)
       · rw [if_pos c5] at H
         have c5b0 : decide (0 ≤ x5_1) = true := decide_eq_true c5; clear c5; (by_cases c6 : x5_1 < (l1.length : Int))
         · rw [if_pos c6] at H
           have c6b0 : decide (x5_1 < (l1.length : Int)) = true := decide_eq_true c6; clear c6; (by_cases c7 : (rdOf ByteArray.empty l0 x5_1).toList = (rdOf ByteArray.empty l1 x5_1).toList)
           · rw [if_pos c7] at H
             have c7b0 : ((rdOf ByteArray.empty l0 x5_1).toList == (rdOf ByteArray.empty l1 x5_1).toList) = true := beq_iff_eq.mpr c7; have c7b1 : ((rdOf ByteArray.empty l0 x5_1).toList != (rdOf ByteArray.empty l1 x5_1).toList) = false := bne_eq_false_iff_eq.mpr c7; clear c7; have H' := aM_ H; clear H; have p175 : 0 ≤ (x5_1 : Int) := of_decide_eq_true (by assumption); have q175 : x5_1 < (l0.length : Int) := of_decide_eq_true (by assumption); obtain ⟨ad175, e175, hx175_0⟩ := Kd.at_string HR0.out x5_1 p175 q175; (cases e175); replace p175 := eq_true p175; replace q175 := eq_true q175; have p176 : 0 ≤ (x5_1 : Int) := of_decide_eq_true (by assumption); have q176 : x5_1 < (l1.length : Int) := of_decide_eq_true (by assumption); obtain ⟨ad176, e176, hx176_0⟩ := Kd.at_string HR1.out x5_1 p176 q176; (cases e176); replace p176 := eq_true p176; replace q176 := eq_true q176; go_wp2
             repeat (go_quiet (fail); try go_wp2)
             (go_roundg k1)
             case measure => have := HK1.out; omega
             case rel => exact ⟨(wrap64 (x5_1 + 1)), (by first | rfl | (simp; done) | (simp [*]; done)), H', ⟨by have := HK1.out; omega⟩, by repeat (first | exact Drawn0.refl _ | apply Drawn0.step)⟩
           · rw [if_neg c7] at H
             have c7b0 : ((rdOf ByteArray.empty l0 x5_1).toList == (rdOf ByteArray.empty l1 x5_1).toList) = false := beq_eq_false_iff_ne.mpr c7; have c7b1 : ((rdOf ByteArray.empty l0 x5_1).toList != (rdOf ByteArray.empty l1 x5_1).toList) = true := bne_iff_ne.mpr c7; obtain rfl := Option.some.inj H; simp only [Option.some.injEq, Prod.mk.injEq] at H; obtain ⟨rfl⟩ := H; have p175 : 0 ≤ (x5_1 : Int) := of_decide_eq_true (by assumption); have q175 : x5_1 < (l0.length : Int) := of_decide_eq_true (by assumption); obtain ⟨ad175, e175, hx175_0⟩ := Kd.at_string HR0.out x5_1 p175 q175; (cases e175); replace p175 := eq_true p175; replace q175 := eq_true q175; have p176 : 0 ≤ (x5_1 : Int) := of_decide_eq_true (by assumption); have q176 : x5_1 < (l1.length : Int) := of_decide_eq_true (by assumption); obtain ⟨ad176, e176, hx176_0⟩ := Kd.at_string HR1.out x5_1 p176 q176; (cases e176); replace p176 := eq_true p176; replace q176 := eq_true q176; go_wp2
             repeat (go_quiet (fail); try go_wp2)
             go_ret; exact ⟨by first | rfl | (simp; done) | (simp [*]; done), by repeat (first | exact Drawn0.refl _ | apply Drawn0.step)⟩
         (· rw [if_neg c6] at H; exact absurd H (by simp))
       (· rw [if_neg c5] at H; exact absurd H (by simp))
     · rw [if_neg c4] at H
       have c4b0 : decide (x5_1 < (l0.length : Int)) = false := decide_eq_false c4; clear c4; obtain rfl := Option.some.inj H; simp only [Option.some.injEq, Prod.mk.injEq] at H; obtain ⟨rfl⟩ := H; go_wp2
       repeat (go_quiet (fail); try go_wp2)
       go_ret; exact ⟨by first | rfl | (simp; done) | (simp [*]; done), by repeat (first | exact Drawn0.refl _ | apply Drawn0.step)⟩
 · rw [if_neg c3] at H
   have c3b0 : ((l0.length : Int) == (l1.length : Int)) = false := beq_eq_false_iff_ne.mpr c3; have c3b1 : ((l0.length : Int) != (l1.length : Int)) = true := bne_iff_ne.mpr c3; (have c3b2 : (l0.length == l1.length) = false := by first | simpa using c3 | (simp at c3 ⊢; omega)); obtain rfl := Option.some.inj H; simp only [Option.some.injEq, Prod.mk.injEq] at H; obtain ⟨rfl⟩ := H; (go_enter Tryd.func17, Tryd.ntmps17); go_wp2
   repeat (go_quiet (fail); try go_wp2)
   go_ret; exact ⟨by first | rfl | (simp; done) | (simp [*]; done), by repeat (first | exact Drawn0.refl _ | apply Drawn0.step)⟩
def bits_Len64.f (a0 : Int) : Option (Int) := if 0 ≤ a0 then (if a0 ≤ 18446744073709551615 then some (Lib.bitLen a0.toNat : Int) else none) else none
set_option maxRecDepth 100000 in
theorem bits_Len64.len8tab_size : (Lib.len8tab.size : Int) = 256 := by
 (have : Lib.len8tab.size = 256 := by decide); omega
theorem bits_Len64.wrap_add (k a b : Nat) (hk : k ≤ 56) (ha : a ≤ 8) (hb : b = k + a) : wrap64 ((k : Int) + wrap64 (a : Int)) = (b : Int) := by
 unfold wrap64; omega
theorem bits_Len64.wrap_wrap (a : Nat) (ha : a ≤ 8) : wrap64 (wrap64 (a : Int)) = (a : Int) := by
 unfold wrap64; omega
theorem bits_Len64.wrap_one (a : Nat) (ha : a ≤ 8) : wrap64 (a : Int) = (a : Int) := by
 unfold wrap64; omega
theorem bits_Len64.len8_get (y : Int) (h : y.toNat < Lib.len8tab.size) : ((Lib.len8tab[y.toNat]'h).toNat : Int) = Lib.len8 y := by
 unfold Lib.len8; rw [getElem?_pos Lib.len8tab y.toNat h]; rfl
set_option maxHeartbeats 32000000 in
set_option maxRecDepth 1000000 in
theorem bits_Len64.calls (x : Int) (r : Int) (w : World) (h : bits_Len64.f x = some r) :
    Calls Tryd.prog 81 #[.int .u64 x] w fun e w' => e = .returned (.int .i64 r) ∧ Drawn0 w w' := by
 unfold bits_Len64.f at h; (by_cases h0 : 0 ≤ x)
 case neg => rw [if_neg h0] at h; cases h
 rw [if_pos h0] at h; (by_cases h1 : x ≤ 18446744073709551615)
 case neg => rw [if_neg h1] at h; cases h
 rw [if_pos h1] at h; obtain rfl := Option.some.inj h; clear h; (go_enter Tryd.func81, Tryd.ntmps81); go_wp2
 all_goals first
   | (go_ret; refine ⟨congrArg Ending.returned (congrArg (Value.int IntKind.i64) ?_), Drawn0.refl _⟩; go_light)
   | (exfalso
      go_light
      have hs := bits_Len64.len8tab_size
      omega)
 all_goals first
   | (rw [bits_Len64.len8_get (x / 4294967296 / 65536 / 256) _, Lib.len8_of (x / 4294967296 / 65536 / 256) (by omega) (by omega)]
      have e : (x / 4294967296 / 65536 / 256).toNat = x.toNat / 72057594037927936 := by omega
      have l := Lib.bitLen_le8' (x / 4294967296 / 65536 / 256) (by omega) (by omega)
      have s := Lib.bitLen_shift56 x.toNat (by omega) (by omega)
      rw [e] at l ⊢
      exact bits_Len64.wrap_add 56 _ _ (by decide) l s)
   | (rw [bits_Len64.len8_get (x / 4294967296 / 65536) _, Lib.len8_of (x / 4294967296 / 65536) (by omega) (by omega)]
      have e : (x / 4294967296 / 65536).toNat = x.toNat / 281474976710656 := by omega
      have l := Lib.bitLen_le8' (x / 4294967296 / 65536) (by omega) (by omega)
      have s := Lib.bitLen_shift48 x.toNat (by omega) (by omega)
      rw [e] at l ⊢
      exact bits_Len64.wrap_add 48 _ _ (by decide) l s)
   | (rw [bits_Len64.len8_get (x / 4294967296 / 256) _, Lib.len8_of (x / 4294967296 / 256) (by omega) (by omega)]
      have e : (x / 4294967296 / 256).toNat = x.toNat / 1099511627776 := by omega
      have l := Lib.bitLen_le8' (x / 4294967296 / 256) (by omega) (by omega)
      have s := Lib.bitLen_shift40 x.toNat (by omega) (by omega)
      rw [e] at l ⊢
      exact bits_Len64.wrap_add 40 _ _ (by decide) l s)
   | (rw [bits_Len64.len8_get (x / 4294967296) _, Lib.len8_of (x / 4294967296) (by omega) (by omega)]
      have e : (x / 4294967296).toNat = x.toNat / 4294967296 := by omega
      have l := Lib.bitLen_le8' (x / 4294967296) (by omega) (by omega)
      have s := Lib.bitLen_shift32 x.toNat (by omega) (by omega)
      rw [e] at l ⊢
      exact bits_Len64.wrap_add 32 _ _ (by decide) l s)
   | (rw [bits_Len64.len8_get (x / 65536 / 256) _, Lib.len8_of (x / 65536 / 256) (by omega) (by omega)]
      have e : (x / 65536 / 256).toNat = x.toNat / 16777216 := by omega
      have l := Lib.bitLen_le8' (x / 65536 / 256) (by omega) (by omega)
      have s := Lib.bitLen_shift24 x.toNat (by omega) (by omega)
      rw [e] at l ⊢
      exact bits_Len64.wrap_add 24 _ _ (by decide) l s)
   | (rw [bits_Len64.len8_get (x / 65536) _, Lib.len8_of (x / 65536) (by omega) (by omega)]
      have e : (x / 65536).toNat = x.toNat / 65536 := by omega
      have l := Lib.bitLen_le8' (x / 65536) (by omega) (by omega)
      have s := Lib.bitLen_shift16 x.toNat (by omega) (by omega)
      rw [e] at l ⊢
      exact bits_Len64.wrap_add 16 _ _ (by decide) l s)
   | (rw [bits_Len64.len8_get (x / 256) _, Lib.len8_of (x / 256) (by omega) (by omega)]
      have e : (x / 256).toNat = x.toNat / 256 := by omega
      have l := Lib.bitLen_le8' (x / 256) (by omega) (by omega)
      have s := Lib.bitLen_shift8 x.toNat (by omega) (by omega)
      rw [e] at l ⊢
      exact bits_Len64.wrap_add 8 _ _ (by decide) l s)
   | (rw [bits_Len64.len8_get (x) _, Lib.len8_of (x) (by omega) (by omega)]
      have e : (x).toNat = x.toNat := by omega
      have l := Lib.bitLen_le8' (x) (by omega) (by omega)
      rw [e] at l ⊢
      first | exact bits_Len64.wrap_wrap _ l | exact bits_Len64.wrap_add 0 _ _ (by decide) l (by omega) | exact bits_Len64.wrap_one _ l)
def bits_Len.f (a0 : Int) : Option (Int) := (bits_Len64.f a0).bind fun t177 => (some t177)
set_option maxHeartbeats 8000000 in
set_option maxRecDepth 100000 in
theorem bits_Len.calls (a0 : Int) (r : Int) (w : World) (h : bits_Len.f a0 = some r) :
    Calls Tryd.prog 62 #[.int .u64 a0] w fun e w' => e = .returned (.int .i64 r) ∧ Drawn0 w w' := by
 have H : ((bits_Len64.f a0).bind fun t177 => (some t177)) = some r := h; clear h; replace H := Option.bind_eq_some_iff.mp H; obtain ⟨t177, A20, H⟩ := H; replace H : (some t177) = some r := H; have A2 := aM_ A20; clear A20; obtain rfl := Option.some.inj H; simp only [Option.some.injEq, Prod.mk.injEq] at H; obtain ⟨rfl⟩ := H; (go_enter Tryd.func62, Tryd.ntmps62); (go_wp2_with (first | ((with_reducible refine gate_callee (f := 81) rfl ?_); refine goesL_ (some 7) rfl rfl Tryd.func81 (by kernel_rfl) rfl #[.int .u64 a0] rfl (by (try simp only [List.map_toArray, List.map_cons, List.map_nil]); first | done | rfl | (simp only [List.length_drop, List.length_take]; rfl)) ?_; (with_reducible refine (bits_Len64.calls a0 t177 _ A2.out).mono ?_); rintro e w' ⟨rfl, ⟨nd, rfl⟩⟩; refine ⟨_, rfl, ?_⟩))); go_ret; exact ⟨by first | rfl | (simp; done) | (simp [*]; done), by repeat (first | exact Drawn0.refl _ | apply Drawn0.step)⟩
end Go.Proofs.YtilndieajndggaaDoor.Fn
