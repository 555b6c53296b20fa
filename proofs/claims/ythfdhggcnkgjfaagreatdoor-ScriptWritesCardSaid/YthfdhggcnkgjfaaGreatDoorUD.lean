/- Lines of words; members' lines. -/
import Derived.Test.YthfdhggcnkgjfaaGreatDoorUC
import Derived.Test.YthfdhggcnkgjfaaGreatDoorYC
namespace Go.Proofs.YthfdhggcnkgjfaaGreatDoor
open Go.RowKit
set_option linter.unusedVariables false
set_option linter.unusedSimpArgs false
theorem cat_data (a b : ByteArray) : (a ++ b).data.toList = a.data.toList ++ b.data.toList := by simp
def i64 (n : Int) : Prop := -9223372036854775808 ≤ n ∧ n ≤ 9223372036854775807
structure OspI (o : Osp) : Prop where
  kind : i64 o.kind
  vip : i64 o.vip
  backend : i64 o.backend
  version : i64 o.version
  hi : o.a.hi < 18446744073709551616
  lo : o.a.lo < 18446744073709551616
  port : o.port ≤ 65535
  proto : o.proto ≤ 255
  way : i64 o.way
  ms : ∀ m ∈ o.ms, i64 m.1 ∧ i64 m.2
structure SpI (s : Sp) : Prop where
  kind : i64 s.kind
  op : OspI s.op
  who : i64 s.who
  time : i64 s.time
  flags : s.flags ≤ 255
  n : s.n ≤ 4294967295
  x : s.x ≤ 4294967295
  y : s.y ≤ 4294967295
  hi : s.src.hi < 18446744073709551616
  lo : s.src.lo < 18446744073709551616
  port : s.port ≤ 65535
theorem numT_len {n : Int} (h : i64 n) : (numT n).length ≤ 20 := by
  unfold numT
  refine digB_len (b := 10) (by omega) 19 _ ?_
  have := h.2
  have e : (10 ^ (19 + 1) : Nat) = 100000000000000000000 := rfl
  rw [e]
  omega
theorem numT_lenN {n : Nat} (h : n ≤ 4294967295) : (numT (n : Int)).length ≤ 20 := numT_len ⟨by omega, by omega⟩
theorem memT_len {m : Int × Int} (h : i64 m.1 ∧ i64 m.2) : (memT m).length ≤ 41 := by
  have h1 := numT_len h.1
  have h2 := numT_len h.2
  unfold memT
  rw [List.length_append, List.length_cons]
  omega
set_option maxRecDepth 20000 in
set_option maxHeartbeats 2000000 in
theorem line_any {w : World} {base : Nat} {v : Value} (xs : List ByteArray) (h : Row w base 9 v (xs.map Value.string)) (hne : xs ≠ []) (hn : xs.length ≤ 1000) (hlen : (joinC 32 (xs.map (·.data.toList))).length ≤ 140737488355328) :
    Calls Tryz.prog 43 #[v] w (WordR w (joinC 32 (xs.map (·.data.toList)))) := by
  have HJ := Lib.hid (join_row 32 xs h hne hn hlen)
  obtain ⟨A, c, rfl, -, -⟩ := h.shape
  clear h hlen
  generalize joinC 32 (xs.map (·.data.toList)) = t at HJ ⊢
  obtain ⟨n, hn2⟩ : ∃ n, (xs.map Value.string).length = n := ⟨_, rfl⟩
  rw [hn2] at HJ ⊢
  clear hn2 hn hne
  go_enter Tryz.func43, Tryz.ntmps43
  go_wp2_with fail
  refine HJ.out.mono ?_
  rintro e w1 ⟨y, rfl, hy, hk⟩
  have HY := Lib.hid hy
  clear hy
  go_wp2_with fail
  go_ret
  exact ⟨y, rfl, HY.out, hk⟩
set_option maxRecDepth 20000 in
set_option maxHeartbeats 8000000 in
theorem memLine_any (o : Osp) (MA : Option Addr) (mc : Nat) (w : World) (hT : Tabs w) (hI : OspI o) (hl : o.ms.length ≤ 70) (hM : ES w w.heap.size MA 2 (mcs o.ms)) :
    Calls Tryz.prog 66 #[.agg (OC (.slice MA o.ms.length mc) o)] w (WordR w (joinC 32 (issueT :: membersT :: numT o.vip :: o.ms.map memT))) := by
  have h9 := info9s
  have HT := Lib.hid hT
  have HM := Lib.hid hM
  have HVI := Lib.hid hI.vip
  have HMI := Lib.hid hI.ms
  clear hT hM
  unfold OC
  obtain ⟨ms, hms⟩ : ∃ ms, o.ms = ms := ⟨_, rfl⟩
  rw [hms] at hl HM HMI ⊢
  clear hI hms
  go_enter Tryz.func66, Tryz.ntmps66
  go_upto_region 1 with fail
  obtain ⟨w1, hw1⟩ : ∃ w1 : World, w1 = w.alloc (.cells #[.int .i64 o.kind, .int .i64 o.vip, .int .i64 o.backend, .int .i64 o.version, .bool o.a.six, .int .u64 (o.a.hi : Int), .int .u64 (o.a.lo : Int), .int .u16 (o.port : Int), .int .u8 (o.proto : Int), .int .i64 o.way, .slice MA ms.length mc] 29) := ⟨_, rfl⟩
  have HK1 := Lib.hid (show Kept (fun _ => False) w w1 by rw [hw1]; exact (Kept.refl _ _).alloc _)
  have HN := Lib.hid (show Blk w1 w.heap.size 29 #[.int .i64 o.kind, .int .i64 o.vip, .int .i64 o.backend, .int .i64 o.version, .bool o.a.six, .int .u64 (o.a.hi : Int), .int .u64 (o.a.lo : Int), .int .u16 (o.port : Int), .int .u8 (o.proto : Int), .int .i64 o.way, .slice MA ms.length mc] by rw [hw1]; exact Blk.new _ _ _)
  rw [← hw1]
  clear hw1
  have cB := HN.out.cell
  have HV := Lib.hid (num_any o.vip HVI.out.1 HVI.out.2 w1 (HT.out.on HK1.out))
  go_wp2_with fail
  refine HV.out.mono ?_
  rintro e w2 ⟨y0, rfl, hy0, hk⟩
  have HY0 := Lib.hid hy0
  have HK2 := Lib.hid (HK1.out.trans hk)
  have HN2 := Lib.hid (HN.out.kept hk (fun h => h))
  have wz2 := HK2.out.size
  clear hy0 hk cB HN HK1 HV
  have cB := HN2.out.cell
  have lB := HN2.out.lt
  go_upto_region 2 with fail
  obtain ⟨w3, hw3⟩ : ∃ w3 : World, w3 = w2.alloc (.cells #[.string (⟨#[105, 115, 115, 117, 101]⟩), .string (⟨#[109, 101, 109, 98, 101, 114, 115]⟩), .string y0] 9) := ⟨_, rfl⟩
  have HK3 := Lib.hid (show Kept (fun _ => False) w w3 by rw [hw3]; exact HK2.out.alloc _)
  have HN3 := Lib.hid (show Blk w3 w.heap.size 29 #[.int .i64 o.kind, .int .i64 o.vip, .int .i64 o.backend, .int .i64 o.version, .bool o.a.six, .int .u64 (o.a.hi : Int), .int .u64 (o.a.lo : Int), .int .u16 (o.port : Int), .int .u8 (o.proto : Int), .int .i64 o.way, .slice MA ms.length mc] by rw [hw3]; exact HN2.out.alloc _)
  have HR3 := Lib.hid (show Row w3 w.heap.size 9 (.slice (some ⟨w2.heap.size, 0, none⟩) 3 3) (([(⟨#[105, 115, 115, 117, 101]⟩), (⟨#[109, 101, 109, 98, 101, 114, 115]⟩), y0] : List ByteArray).map Value.string) by rw [hw3]; exact Row.of_blk (Blk.new _ _ _) wz2 (show 3 ≤ maxLen by decide) rfl)
  have HX3 := Lib.hid (show ([(⟨#[105, 115, 115, 117, 101]⟩), (⟨#[109, 101, 109, 98, 101, 114, 115]⟩), y0] : List ByteArray).map (·.data.toList) = [issueT, membersT, numT o.vip] by simp only [List.map_cons, List.map_nil]; rw [HY0.out]; rfl)
  have wz3 := HK3.out.size
  rw [← hw3]
  clear hw3 cB lB
  have cB := HN3.out.cell
  generalize ([(⟨#[105, 115, 115, 117, 101]⟩), (⟨#[109, 101, 109, 98, 101, 114, 115]⟩), y0] : List ByteArray) = xs0 at HR3 HX3
  go_wp2_with fail
  go_loopw [3, 13] (fun v n wr => ∃ (k : Nat) (xs : List ByteArray), k ≤ ms.length ∧ n = .int .i64 (k : Int) ∧ Hid (Row wr w.heap.size 9 v (xs.map Value.string)) ∧ Hid (xs.map (·.data.toList) = [issueT, membersT, numT o.vip] ++ (ms.take k).map memT) ∧ Hid (Kept (fun _ => False) w wr)) (fun _ n _ => ms.length - (intOf n).toNat)
  case atStart => exact ⟨0, xs0, by omega, rfl, HR3, Lib.hid (by rw [HX3.out]; simp), HK3⟩
  case round =>
    obtain ⟨k, xs, hk, rfl, HR, HX, HK⟩ := hrel
    have wz := HK.out.size
    have HLN := Lib.hid (show xs.length ≤ 73 by
      have := congrArg List.length HX.out
      simp only [List.length_map, List.length_append, List.length_take, List.length_cons, List.length_nil] at this
      omega)
    have hln := HLN.out
    have k0 : (0 : Int) ≤ (k : Int) := Int.natCast_nonneg _
    by_cases hlt : k < ms.length
    · have kI : (k : Int) < (ms.length : Int) := by omega
      obtain ⟨b, off, hb, rfl, hat⟩ := HM.out.at (k := k) (by rw [mcs_len]; exact hlt)
      obtain ⟨⟨ma, mb⟩, hm⟩ : ∃ m, ms[k] = m := ⟨_, rfl⟩
      have HTK := Lib.hid (show ms.take (k + 1) = ms.take k ++ [(ma, mb)] by rw [List.take_succ_eq_append_getElem hlt, hm])
      have HI := Lib.hid (show i64 ma ∧ i64 mb from HMI.out (ma, mb) (by rw [← hm]; exact List.getElem_mem hlt))
      have c0 : wr.cell? ⟨b, off + k * 2, none⟩ = some (.int .i64 ma) := by
        rw [HK.out.cell hb (fun h => h), hat.get0 (k := k) (by rw [mcs_len]; exact hlt) (by decide)]
        simp [mcs, hm]
      have c1 : wr.cell? ⟨b, off + k * 2 + 1, none⟩ = some (.int .i64 mb) := by
        rw [HK.out.cell hb (fun h => h), hat.get (k := k) (by rw [mcs_len]; exact hlt) 1 (by decide)]
        simp [mcs, hm]
      clear hm hat
      go_upto_region 5 with fail
      obtain ⟨w4, hw4⟩ : ∃ w4 : World, w4 = wr.alloc (.cells #[.int .i64 ma, .int .i64 mb] 89) := ⟨_, rfl⟩
      have HK4 := Lib.hid (show Kept (fun _ => False) w w4 by rw [hw4]; exact HK.out.alloc _)
      have HB4 := Lib.hid (show Blk w4 wr.heap.size 89 #[.int .i64 ma, .int .i64 mb] by rw [hw4]; exact Blk.new _ _ _)
      have HR4 := Lib.hid (show Row w4 w.heap.size 9 u3 (xs.map Value.string) by rw [hw4]; exact Row.alloc HR.out _)
      have wz4 := HK4.out.size
      rw [← hw4]
      clear hw4 c0 c1
      obtain ⟨fb, hfb⟩ : ∃ fb, wr.heap.size = fb := ⟨_, rfl⟩
      rw [hfb] at HB4 ⊢
      clear hfb
      have lF := HB4.out.lt
      refine wp_region_kept 10 [(3, fun v u => ∃ y : ByteArray, v = .string y ∧ y.data.toList = numT ma), (4, fun v u => ∃ y : ByteArray, v = .string y ∧ y.data.toList = numT ma ++ [58]), (7, fun v u => ∃ y : ByteArray, v = .string y ∧ y.data.toList = numT mb), (8, fun v u => ∃ y : ByteArray, v = .string y ∧ y.data.toList = memT (ma, mb)), (9, fun v u => ∃ (y : ByteArray) (g : Nat), v = .slice (some ⟨g, 0, none⟩) 1 1 ∧ y.data.toList = memT (ma, mb) ∧ Blk u g 9 #[.string y])] ?st ?ne rfl (by kernel_rfl) (by kernel_rfl) ?_
      case st =>
        intro p hp
        simp only [List.mem_cons, List.not_mem_nil, or_false] at hp
        rcases hp with rfl | rfl | rfl | rfl | rfl
        · intro v u u' h hk; exact h
        · intro v u u' h hk; exact h
        · intro v u u' h hk; exact h
        · intro v u u' h hk; exact h
        · intro v u u' h hk; obtain ⟨y, g, h1, h2, h3⟩ := h; exact ⟨y, g, h1, h2, h3.kept hk (fun h => h)⟩
      case ne =>
        intro p hp
        simp only [List.mem_cons, List.not_mem_nil, or_false] at hp
        rcases hp with rfl | rfl | rfl | rfl | rfl
        · exact ⟨_, _, Kept.refl _ _, ⟨(numT ma).toArray⟩, rfl, rfl⟩
        · exact ⟨_, _, Kept.refl _ _, ⟨(numT ma ++ [58]).toArray⟩, rfl, rfl⟩
        · exact ⟨_, _, Kept.refl _ _, ⟨(numT mb).toArray⟩, rfl, rfl⟩
        · exact ⟨_, _, Kept.refl _ _, ⟨(memT (ma, mb)).toArray⟩, rfl, rfl⟩
        · exact ⟨_, _, (Kept.refl _ _).alloc (.cells #[.string ⟨(memT (ma, mb)).toArray⟩] 9), ⟨(memT (ma, mb)).toArray⟩, _, rfl, rfl, Blk.new _ _ _⟩
      simp only [List.take_succ_cons, List.take_zero, List.drop_succ_cons, List.drop_zero]
      intro G pick hR hp1 hp2
      have sF : ∀ u i, (pick u).cell? ⟨fb, i, none⟩ = (#[.int .i64 ma, .int .i64 mb] : Array Value)[i]? := fun u i => ((hp1 u).cell lF (fun h => h) _).trans (HB4.out.cell i)
      repeat (first | (refine wpR_det hp2 rfl ((hR.rel _).trans rfl) rfl ?_; intro K hK; go_big_quiet_op; go_big_quiet_on) | (refine wpR_ptr hp2 rfl ((hR.rel _).trans rfl) rfl rfl ?_; intro K hK; go_big_quiet_op; go_big_quiet_on) | (refine wpR_skip pick rfl ?_; intro K hK; go_big_quiet_op; go_big_quiet_on))
      refine wpR_rel pick rfl ((hR.rel _).trans rfl) ((hR.turns _).trans rfl) ?_ ?_
      · intro u hu
        have hk := hR.since hu.1
        have hks := hk.size
        unfold relAt
        go_simp
        refine (num_any ma HI.out.1.1 HI.out.1.2 u (HT.out.on (HK4.out.trans hk))).mono ?_
        rintro e w' ⟨y, rfl, hy, hk'⟩
        exact ⟨_, rfl, hR.into0 hk', hR.put 0 rfl rfl ⟨y, rfl, hy⟩⟩
      intro v hv
      obtain ⟨u, _, hu⟩ := hv
      obtain ⟨y1, rfl, hy1⟩ := hR.get 0 rfl hu
      clear hu
      have HY1 := Lib.hid hy1
      clear hy1
      intro K hK
      go_big_quiet_op
      go_big_quiet_on
      repeat (first | (refine wpR_det hp2 rfl ((hR.rel _).trans rfl) rfl ?_; intro K hK; go_big_quiet_op; go_big_quiet_on) | (refine wpR_ptr hp2 rfl ((hR.rel _).trans rfl) rfl rfl ?_; intro K hK; go_big_quiet_op; go_big_quiet_on) | (refine wpR_skip pick rfl ?_; intro K hK; go_big_quiet_op; go_big_quiet_on))
      refine wpR_rel pick rfl ((hR.rel _).trans rfl) ((hR.turns _).trans rfl) ?_ ?_
      · intro u hu
        have hk := hR.since hu.1
        have hks := hk.size
        have hz : ¬ (9223372036854775807 < y1.size + 1) := by rw [Lib.size_eq, HY1.out]; have := numT_len HI.out.1; omega
        unfold relAt
        go_simp
        exact ⟨hR.same, hR.put 1 rfl rfl ⟨_, rfl, by rw [cat_data]; rw [HY1.out]⟩⟩
      intro v hv
      obtain ⟨u, _, hu⟩ := hv
      obtain ⟨y12, rfl, hy12⟩ := hR.get 1 rfl hu
      clear hu
      have HY12 := Lib.hid hy12
      clear hy12
      intro K hK
      go_big_quiet_op
      go_big_quiet_on
      repeat (first | (refine wpR_det hp2 rfl ((hR.rel _).trans rfl) rfl ?_; intro K hK; go_big_quiet_op; go_big_quiet_on) | (refine wpR_ptr hp2 rfl ((hR.rel _).trans rfl) rfl rfl ?_; intro K hK; go_big_quiet_op; go_big_quiet_on) | (refine wpR_skip pick rfl ?_; intro K hK; go_big_quiet_op; go_big_quiet_on))
      refine wpR_rel pick rfl ((hR.rel _).trans rfl) ((hR.turns _).trans rfl) ?_ ?_
      · intro u hu
        have hk := hR.since hu.1
        have hks := hk.size
        unfold relAt
        go_simp
        refine (num_any mb HI.out.2.1 HI.out.2.2 u (HT.out.on (HK4.out.trans hk))).mono ?_
        rintro e w' ⟨y, rfl, hy, hk'⟩
        exact ⟨_, rfl, hR.into0 hk', hR.put 2 rfl rfl ⟨y, rfl, hy⟩⟩
      intro v hv
      obtain ⟨u, _, hu⟩ := hv
      obtain ⟨y2, rfl, hy2⟩ := hR.get 2 rfl hu
      clear hu
      have HY2 := Lib.hid hy2
      clear hy2
      intro K hK
      go_big_quiet_op
      go_big_quiet_on
      repeat (first | (refine wpR_det hp2 rfl ((hR.rel _).trans rfl) rfl ?_; intro K hK; go_big_quiet_op; go_big_quiet_on) | (refine wpR_ptr hp2 rfl ((hR.rel _).trans rfl) rfl rfl ?_; intro K hK; go_big_quiet_op; go_big_quiet_on) | (refine wpR_skip pick rfl ?_; intro K hK; go_big_quiet_op; go_big_quiet_on))
      refine wpR_rel pick rfl ((hR.rel _).trans rfl) ((hR.turns _).trans rfl) ?_ ?_
      · intro u hu
        have hk := hR.since hu.1
        have hks := hk.size
        have hz : ¬ (9223372036854775807 < y12.size + y2.size) := by rw [Lib.size_eq, Lib.size_eq, HY12.out, HY2.out]; have := numT_len HI.out.1; have := numT_len HI.out.2; simp; omega
        unfold relAt
        go_simp
        exact ⟨hR.same, hR.put 3 rfl rfl ⟨_, rfl, by rw [cat_data]; rw [HY12.out, HY2.out]; simp [memT]⟩⟩
      intro v hv
      obtain ⟨u, _, hu⟩ := hv
      obtain ⟨y3, rfl, hy3⟩ := hR.get 3 rfl hu
      clear hu
      have HY3 := Lib.hid hy3
      clear hy3
      intro K hK
      go_big_quiet_op
      go_big_quiet_on
      repeat (first | (refine wpR_det hp2 rfl ((hR.rel _).trans rfl) rfl ?_; intro K hK; go_big_quiet_op; go_big_quiet_on) | (refine wpR_ptr hp2 rfl ((hR.rel _).trans rfl) rfl rfl ?_; intro K hK; go_big_quiet_op; go_big_quiet_on) | (refine wpR_skip pick rfl ?_; intro K hK; go_big_quiet_op; go_big_quiet_on))
      refine wpR_rel pick rfl ((hR.rel _).trans rfl) ((hR.turns _).trans rfl) ?_ ?_
      · intro u hu
        have hk := hR.since hu.1
        have hks := hk.size
        unfold relAt
        go_simp
        exact ⟨hR.into0 ((Kept.refl _ _).alloc _), hR.put 4 rfl rfl ⟨_, _, rfl, HY3.out, Blk.new _ _ _⟩⟩
      intro v hv
      obtain ⟨u, _, hu⟩ := hv
      obtain ⟨y5, g3, rfl, hy5, hb5⟩ := hR.get 4 rfl hu
      clear hu
      clear hy5 hb5
      intro K hK
      go_big_quiet_op
      go_big_quiet_on
      repeat (first | (refine wpR_det hp2 rfl ((hR.rel _).trans rfl) rfl ?_; intro K hK; go_big_quiet_op; go_big_quiet_on) | (refine wpR_ptr hp2 rfl ((hR.rel _).trans rfl) rfl rfl ?_; intro K hK; go_big_quiet_op; go_big_quiet_on) | (refine wpR_skip pick rfl ?_; intro K hK; go_big_quiet_op; go_big_quiet_on))
      refine wpR_nil ?_
      intro w5 hk2 hF hM
      obtain ⟨y4, g4, hg4, hy4, hB4⟩ := (hR.get 4 rfl (hF _ _ (Got.upd_self _ _ _)))
      injection hg4 with e1 _ _
      injection e1 with e1
      injection e1 with e1
      subst e1
      have HY4 := Lib.hid hy4
      have HBY := Lib.hid hB4
      have HR5 := Lib.hid (show Row w5 w.heap.size 9 u3 (xs.map Value.string) from Row.kept HR4.out hk2 (fun _ _ h => h))
      have HK5 := Lib.hid (HK4.out.trans hk2)
      have wz5 := HK5.out.size
      clear hF hM hk2 hp1 hp2 hR sF hy4 hB4 HR4 HK4 HB4 lF
      go_wp2_with (at_builtin; refine wpList_append_row rfl (.tmp 17) (.tmp 26) 54 rfl w.heap.size 9 (.string ByteArray.empty) 16 Tryz.underlying54 h9 rfl _ (xs.map Value.string) rfl (some ⟨g3, 0, none⟩) 1 1 [.string y4] rfl rfl HR5.out (Src.blk HBY.out rfl) ?one ?a3 ?a4 ?a5 ?_)
      try case one => simp [Value.oneCell']
      try case a3 => ((try simp); unfold maxLen; omega)
      try case a4 => ((try simp); omega)
      try case a5 => omega
      intro v6 w6 hrow hgr _
      have HR6 := Lib.hid (show Row w6 w.heap.size 9 v6 ((xs ++ [y4]).map Value.string) by rw [List.map_append]; exact hrow)
      have HK6 := Lib.hid (HK5.out.then (Kept.of_grown hgr (S := fun i => w.heap.size ≤ i) (fun i hi e => (HR5.out.lt i e.symm).1)) (fun i hi h => by omega))
      clear hrow hgr
      go_wp2_with fail
      go_roundw
      case rel => exact ⟨k + 1, xs ++ [y4], by omega, by go_num, HR6, Lib.hid (by rw [List.map_append, HX.out, HTK.out, List.map_append, List.map_cons, HY4.out]; simp), HK6⟩
      case measure => simp [intOf] <;> omega
    · obtain rfl : k = ms.length := by omega
      have kI : ¬ ((ms.length : Int) < (ms.length : Int)) := by omega
      have HX2 := Lib.hid (show xs.map (·.data.toList) = issueT :: membersT :: numT o.vip :: ms.map memT by rw [HX.out, List.take_length]; rfl)
      have hne : xs ≠ [] := fun e => by have := HX2.out; rw [e] at this; cases this
      have HJ := Lib.hid (line_any xs HR.out hne (by omega) (by
        rw [HX2.out]
        refine Nat.le_trans (joinC_len_le 32 41 _ ?_) (by simp; omega)
        intro p hp
        simp only [List.mem_cons] at hp
        rcases hp with rfl | rfl | rfl | hp
        · decide
        · decide
        · have := numT_len HVI.out; omega
        · obtain ⟨q, hq, rfl⟩ := List.mem_map.1 hp
          exact memT_len (HMI.out q hq)))
      rw [HX2.out] at HJ
      go_wp2_with fail
      refine HJ.out.mono ?_
      rintro e w4 ⟨y, rfl, hy, hk4⟩
      have HY := Lib.hid hy
      have HK4 := Lib.hid (HK.out.trans hk4)
      clear hy hk4
      go_wp2_with fail
      go_ret
      exact ⟨y, rfl, HY.out, HK4.out⟩
end Go.Proofs.YthfdhggcnkgjfaaGreatDoor
