/- The document's step of a line. -/
import Derived.Test.YthfdhggcnkgjfaaGreatDoorYG
import Derived.Test.YthfdhggcnkgjfaaGreatDoorYE
import Derived.Test.YthfdhggcnkgjfaaGreatDoorPlainU
import Derived.Test.YthfdhggcnkgjfaaGreatDoorBase
import Derived.Test.YthfdhggcnkgjfaaGreatDoorUF
namespace Go.Proofs.YthfdhggcnkgjfaaGreatDoor
open Go.RowKit
set_option linter.unusedVariables false
set_option linter.unusedSimpArgs false
def RefRet (w : World) (o : Option Sp) (e : Ending) (w' : World) : Prop := Below w.heap.size w w' ∧ match o with
  | none => e = .returned (.tuple #[.agg Z33, .bool false])
  | some s => ∃ mv lv, e = .returned (.tuple #[.agg (SpC mv lv s), .bool true]) ∧ RowN w' w.heap.size 69 2 mv (mcs s.op.ms) ∧ LoadIn w' lv s.load
theorem nms_at : ∀ k, 1 ≤ k → k ≤ 15 → (#[.string ⟨#[]⟩, .string ⟨#[99, 111, 109, 109, 105, 116]⟩, .string ⟨#[99, 114, 97, 115, 104]⟩, .string ⟨#[111, 102, 102, 101, 114]⟩, .string ⟨#[100, 101, 108, 105, 118, 101, 114]⟩, .string ⟨#[100, 114, 111, 112]⟩, .string ⟨#[116, 119, 105, 99, 101]⟩, .string ⟨#[114, 101, 115, 116, 97, 114, 116]⟩, .string ⟨#[114, 101, 112, 111, 114, 116]⟩, .string ⟨#[115, 101, 110, 100]⟩, .string ⟨#[114, 101, 112, 108, 121]⟩, .string ⟨#[116, 105, 99, 107]⟩, .string ⟨#[113, 117, 105, 99]⟩, .string ⟨#[103, 105, 118, 101]⟩, .string ⟨#[109, 111, 118, 101]⟩, .string ⟨#[115, 101, 116, 116, 108, 101]⟩] : Array Value)[k]? = some (.string (nmB k)) := cases15 rfl rfl rfl rfl rfl rfl rfl rfl rfl rfl rfl rfl rfl rfl rfl
theorem pts_at : ∀ k, 1 ≤ k → k ≤ 15 → (#[.string ⟨#[]⟩, .string ⟨#[]⟩, .string ⟨#[87, 70]⟩, .string ⟨#[87]⟩, .string ⟨#[87]⟩, .string ⟨#[87]⟩, .string ⟨#[87]⟩, .string ⟨#[87]⟩, .string ⟨#[87, 78, 49]⟩, .string ⟨#[87, 65, 70, 88, 89, 84]⟩, .string ⟨#[87, 65, 70, 84]⟩, .string ⟨#[78]⟩, .string ⟨#[87, 65, 84]⟩, .string ⟨#[87, 65]⟩, .string ⟨#[87, 97, 80]⟩, .string ⟨#[57]⟩] : Array Value)[k]? = some (.string (ptB k)) := cases15 rfl rfl rfl rfl rfl rfl rfl rfl rfl rfl rfl rfl rfl rfl rfl
def FitM (o : Option Fd) (base : Nat) (v : Value) (u : World) : Prop := ∃ LA ln lc NA nn nc, ∃ f : Fd, ∃ ok : Bool, v = .agg #[.int .i64 0, .int .i64 0, .int .i64 0, .int .i64 0, .int .i64 0, .bool false, .int .u64 0, .int .u64 0, .int .u16 0, .int .u8 0, .int .i64 0, .slice none 0 0, .int .i64 0, .int .i64 0, .int .u8 0, (.slice LA ln lc), .int .u32 0, .int .u32 0, .int .u32 0, .bool false, .int .u64 0, .int .u64 0, .int .u16 0, (.slice NA nn nc), .bool f.a.six, .int .u64 (f.a.hi : Int), .int .u64 (f.a.lo : Int), .int .i64 (f.po : Int), .int .u8 (f.p : Int), .int .i64 (f.wy : Int), .bool ok] ∧ (match o with
  | none => ok = false
  | some g => ok = true ∧ f = g ∧ LoadIn u (.slice LA ln lc) g.load ∧ Row u base 3 (.slice NA nn nc) (ics g.nums))
theorem FitM.on {o : Option Fd} {base : Nat} {v : Value} {u u' : World} (h : FitM o base v u) (hk : Kept (fun _ => False) u u') : FitM o base v u' := by
  obtain ⟨LA, ln, lc, NA, nn, nc, f, ok, hv, hm⟩ := h
  refine ⟨LA, ln, lc, NA, nn, nc, f, ok, hv, ?_⟩
  cases o with
  | none => exact hm
  | some g => exact ⟨hm.1, hm.2.1, hm.2.2.1.keep (fun g cs fr hg => hk.block g (lt_of_heap hg) (fun h => h)), Row.kept hm.2.2.2 hk (fun _ _ h => h)⟩
theorem fitM_ex (o : Option Fd) (base : Nat) (w : World) (hb : ∀ g, o = some g → g.load.length ≤ 4000 ∧ g.nums.length ≤ 4000) (hz : base ≤ w.heap.size) : ∃ v u, Kept (fun _ => False) w u ∧ FitM o base v u := by
  cases o with
  | none => exact ⟨_, w, Kept.refl _ _, none, 0, 0, none, 0, 0, Fd.zero, false, rfl, rfl⟩
  | some g =>
    obtain ⟨h1, h2⟩ := hb g rfl
    refine ⟨_, (w.alloc (.cells (bcs g.load).toArray 5)).alloc (.cells (ics g.nums).toArray 3), ((Kept.refl _ _).alloc _).alloc _, some ⟨w.heap.size, 0, none⟩, g.load.length, g.load.length, some ⟨(w.alloc (.cells (bcs g.load).toArray 5)).heap.size, 0, none⟩, (ics g.nums).length, (ics g.nums).length, g, true, rfl, rfl, rfl, ?_, ?_⟩
    · refine ⟨_, _, rfl, Nat.le_refl _, by unfold maxLen; omega, .inr ⟨w.heap.size, (bcs g.load).toArray, (0, 0), (Blk.new w 5 (bcs g.load).toArray).alloc _, rfl, ?_⟩⟩
      exact (Own.of_blk (e := 5) ((Blk.new w 5 (bcs g.load).toArray).alloc _) (by unfold maxLen; omega)).bytes
    · have h := Row.of_blk (base := base) (Blk.new (w.alloc (.cells (bcs g.load).toArray 5)) 3 (ics g.nums).toArray) (by simp; omega) (by unfold maxLen; simp [ics]; omega) (xs := ics g.nums) (by simp)
      simpa using h
theorem fitRet_fm {w w' : World} {o : Option Fd} {e : Ending} {base : Nat} (h : FitRet w o e w') (hb : base ≤ w.heap.size) : ∃ v, e = .returned v ∧ FitM o base v w' := by
  obtain ⟨_, hm⟩ := h
  cases o with
  | none => exact ⟨_, hm, none, 0, 0, none, 0, 0, Fd.zero, false, rfl, rfl⟩
  | some f =>
    obtain ⟨lv, nv, he, hl, hn⟩ := hm
    obtain ⟨LA, lc, rfl, h1, h2, h3⟩ := hl
    obtain ⟨NA, nc, rfl, -, -⟩ := hn.shape
    exact ⟨_, he, LA, _, lc, NA, _, nc, f, true, rfl, rfl, rfl, ⟨LA, lc, rfl, h1, h2, h3⟩, hn.more hb⟩
theorem slice_tail (g n c : Nat) (h : n + 1 ≤ c) (W : World) : (Instr.sliceAt 54 (.slice (some ⟨g, 0, none⟩) (n + 1) c) (some (.int .i64 1)) none none).run Tryz.prog W = .ok (.slice (if c = 1 then some ⟨g, 0, none⟩ else some ⟨g, 1, none⟩) n (c - 1)) W := by
  have hu : Tryz.prog.underlying 54 = some (.slice (Tryz.prog.elem 54)) := by kernel_rfl
  rw [run_sliceAt_slice (P := Tryz.prog) W 54 _ _ _ _ hu, run_slice_l (P := Tryz.prog) W 54 (some ⟨g, 0, none⟩) (n + 1) c hu .i64 1 (by omega) (by omega)]
  have hs : (sizeOf (Tryz.prog.elem 54)).run Tryz.prog W = .ok 1 W := by kernel_rfl
  rw [hs]
  show Result.ok (sliced (some ⟨g, 0, none⟩) (1 : Int).toNat (n + 1) c 1) W = _
  have ht : (1 : Int).toNat = 1 := rfl
  rw [ht]
  unfold sliced
  by_cases hc : c = 1
  · subst hc
    simp
  · simp [hc, Addr.add]
set_option maxRecDepth 20000 in
set_option maxHeartbeats 40000000 in
theorem refParse_any (s : ByteArray) (hz : s.size ≤ 4000) (w : World) : Calls Tryz.prog 7 #[.string s] w (RefRet w (lineP s.data.toList)) := by
  have HW := Lib.hid (fun W => words_any s hz W)
  have hzI : (s.size : Int) ≤ 4000 := by omega
  have hz0 : (0 : Int) ≤ (s.size : Int) := Int.natCast_nonneg _
  go_enter Tryz.func7, Tryz.ntmps7
  go_upto_region 1 with fail
  obtain ⟨w1, hw1⟩ : ∃ w1 : World, w1 = w.alloc (.cells #[.int .i64 0, .int .i64 0, .int .i64 0, .int .i64 0, .int .i64 0, .bool false, .int .u64 0, .int .u64 0, .int .u16 0, .int .u8 0, .int .i64 0, .slice none 0 0, .int .i64 0, .int .i64 0, .int .u8 0, .slice none 0 0, .int .u32 0, .int .u32 0, .int .u32 0, .bool false, .int .u64 0, .int .u64 0, .int .u16 0] 41) := ⟨_, rfl⟩
  have HR1 := Lib.hid (show Blk w1 w.heap.size 41 #[.int .i64 0, .int .i64 0, .int .i64 0, .int .i64 0, .int .i64 0, .bool false, .int .u64 0, .int .u64 0, .int .u16 0, .int .u8 0, .int .i64 0, .slice none 0 0, .int .i64 0, .int .i64 0, .int .u8 0, .slice none 0 0, .int .u32 0, .int .u32 0, .int .u32 0, .bool false, .int .u64 0, .int .u64 0, .int .u16 0] by rw [hw1]; exact Blk.new _ _ _)
  have HK1 := Lib.hid (show Kept (fun _ => False) w w1 by rw [hw1]; exact (Kept.refl _ _).alloc _)
  rw [← hw1]
  clear hw1
  obtain ⟨rb, hrb⟩ : ∃ rb, w.heap.size = rb := ⟨_, rfl⟩
  have HRB := Lib.hid hrb
  rw [hrb] at HR1 ⊢
  clear hrb
  go_wp2_with fail
  go_loop [4] (fun n => ∃ i : Nat, i ≤ s.size ∧ n = .int .i64 (i : Int) ∧ Hid ((10 : UInt8) ∉ s.data.toList.take i)) (fun n => s.size - (intOf n).toNat)
  case atStart => exact ⟨0, by omega, rfl, Lib.hid (by simp)⟩
  case round =>
    obtain ⟨i, hi, rfl, HN⟩ := hrel
    have i0 : (0 : Int) ≤ (i : Int) := Int.natCast_nonneg _
    by_cases hlt : i < s.size
    · have iI : (i : Int) < (s.size : Int) := by omega
      have hil : i < s.data.toList.length := by rw [← Lib.size_eq]; exact hlt
      by_cases hc : ((s[i]'hlt).toNat : Int) = 10
      · have hcb : (((s[i]'hlt).toNat : Int) == 10) = true := by simpa using hc
        have HF := Lib.hid (show lineP s.data.toList = none by
          unfold lineP
          rw [if_pos]
          have e : s.data.toList[i] = 10 := by
            show s[i]'hlt = 10
            apply UInt8.toNat_inj.1
            have : ((10 : UInt8)).toNat = 10 := rfl
            omega
          rw [← e]
          exact List.getElem_mem hil)
        clear hc
        go_wp2_with (show wpList _ _ _ ((⟨none, .store 41 (.tmp 2) _, _, _, _, none⟩ : Oper) :: _) _ _; refine wpList_store_mid rfl 41 (.tmp 2) _ rfl rb 0 #[.int .i64 0, .int .i64 0, .int .i64 0, .int .i64 0, .int .i64 0, .bool false, .int .u64 0, .int .u64 0, .int .u16 0, .int .u8 0, .int .i64 0, .slice none 0 0, .int .i64 0, .int .i64 0, .int .u8 0, .slice none 0 0, .int .u32 0, .int .u32 0, .int .u32 0, .bool false, .int .u64 0, .int .u64 0, .int .u16 0] rfl rfl (HR1.out.there rfl) (by kernel_rfl) (by simp [Value.oneCell']) ?_)
        generalize hw9 : (World.setCells _ _ _ _) = w9
        have HK9 := Lib.hid (show Kept (fun i => i = rb) w1 w9 by rw [← hw9]; exact Kept.setCells (S := fun i => i = rb) rfl _ _ (Kept.refl _ _))
        have HR9 := Lib.hid (show Blk w9 rb 41 #[.int .i64 0, .int .i64 0, .int .i64 0, .int .i64 0, .int .i64 0, .bool false, .int .u64 0, .int .u64 0, .int .u16 0, .int .u8 0, .int .i64 0, .slice none 0 0, .int .i64 0, .int .i64 0, .int .u8 0, .slice none 0 0, .int .u32 0, .int .u32 0, .int .u32 0, .bool false, .int .u64 0, .int .u64 0, .int .u16 0] by rw [← hw9]; exact HR1.out.setAll #[.int .i64 0, .int .i64 0, .int .i64 0, .int .i64 0, .int .i64 0, .bool false, .int .u64 0, .int .u64 0, .int .u16 0, .int .u8 0, .int .i64 0, .slice none 0 0, .int .i64 0, .int .i64 0, .int .u8 0, .slice none 0 0, .int .u32 0, .int .u32 0, .int .u32 0, .bool false, .int .u64 0, .int .u64 0, .int .u16 0] rfl)
        clear hw9
        have HBZ := Lib.hid ((HK1.out.below (Nat.le_refl _) (fun i h => h.elim)).trans (HK9.out.below HK1.out.size (fun i e => by have := HRB.out; omega)))
        refine bodyPost_ret (results_blk_tmp (P := Tryz.prog) (show Tryz.f7.results = _ from rfl) _ _ rb 41 #[.int .i64 0, .int .i64 0, .int .i64 0, .int .i64 0, .int .i64 0, .bool false, .int .u64 0, .int .u64 0, .int .u16 0, .int .u8 0, .int .i64 0, .slice none 0 0, .int .i64 0, .int .i64 0, .int .u8 0, .slice none 0 0, .int .u32 0, .int .u32 0, .int .u32 0, .bool false, .int .u64 0, .int .u64 0, .int .u16 0] _ rfl HR9.out Tryz.underlying41 rfl (by kernel_rfl)) rfl ⟨HBZ.out, ?_⟩
        rw [HF.out]; try exact rfl
      · have hcb : (((s[i]'hlt).toNat : Int) == 10) = false := by simpa using hc
        have HN2 := Lib.hid (show (10 : UInt8) ∉ s.data.toList.take (i + 1) by
          rw [List.take_succ_eq_append_getElem hil]
          simp only [List.mem_append, List.mem_singleton, not_or]
          refine ⟨HN.out, fun e => hc ?_⟩
          have e' : (s[i]'hlt) = 10 := e.symm
          rw [e']; rfl)
        clear hc
        go_wp2_with fail
        go_round
        case rel => exact ⟨i + 1, by omega, by go_num, HN2⟩
        case measure => simp [intOf]; omega
    · have iI : ¬ (i : Int) < (s.size : Int) := by omega
      have HLP0 := Lib.hid (show lineP s.data.toList = wordsP (parts 32 s.data.toList) by
        unfold lineP
        rw [if_neg]
        have := HN.out
        rw [List.take_of_length_le (by rw [← Lib.size_eq]; omega)] at this
        exact this)
      clear HN hlt hi
      go_wp2_with fail
      refine (HW.out w1).mono ?_
      rintro e w2 ⟨v, xs, rfl, hrow, hxp, hb2⟩
      have HR2 := Lib.hid (HR1.out.below hb2 HR1.out.lt)
      have HK2 := Lib.hid (HK1.out.trans (Kept.ofB (S := fun _ => False) hb2))
      have HZ := Lib.hid (show (joinC 32 (xs.map (·.data.toList))).length ≤ 4000 by rw [hxp, join_parts, ← Lib.size_eq]; exact hz)
      cases xs with
      | nil => exact absurd hxp.symm (parts_ne _ _)
      | cons x r =>
        have HLP := Lib.hid (show lineP s.data.toList = wordsP ((x :: r).map (·.data.toList)) by rw [HLP0.out, hxp])
        clear hb2 HW HR1 HK1 hxp HLP0
        obtain ⟨A0, c, rfl, hc1, hc2⟩ := hrow.shape
        rw [List.length_map, List.length_cons] at hc1 ⊢
        obtain ⟨g, c', hve, hgb, hgl, hce⟩ := hrow.at (i := 0) (by simp)
        injection hve with e1 e2 e3
        subst e1
        unfold maxLen at hc2
        have HT := Lib.hid (show StrAt w2 g 0 (x :: r) from fun k hk => by
          rw [Nat.zero_add, hce k (by simpa using hk)]
          exact congrArg some (List.getElem_map _))
        have c0 : w2.cell? ⟨g, 0, none⟩ = some (.string x) := HT.out 0 (by simp)
        have HSL := Lib.hid (slice_tail g r.length c hc1)
        have HSR0 := Lib.hid (SS.rest (c := c) hgl HT.out (by simpa using hc1))
        generalize hRA : (if c = 1 then (some ⟨g, 0, none⟩ : Option Addr) else some ⟨g, 0 + 1, none⟩) = RA at HSR0
        rw [show (0 + 1) = 1 from rfl] at hRA
        rw [hRA] at HSL
        have HSR := Lib.hid (show ∀ u, Kept (fun _ => False) w2 u → SS u u.heap.size RA r from fun u hk => by
          rcases HSR0.out with h | ⟨b', o', h1, h2, h3⟩
          · exact .inl h
          · exact .inr ⟨b', o', Nat.lt_of_lt_of_le h1 hk.size, h2, fun k hk' => (hk.cell h1 (fun h => h) _).trans (h3 k hk')⟩)
        have HZR := Lib.hid (show (joinC 32 (r.map (·.data.toList))).length ≤ 4000 by
          have := (joinC_tail_len x.data.toList (r.map (·.data.toList))).2
          have h2 := HZ.out
          rw [List.map_cons] at h2
          omega)
        have hsl := HSL.out
        clear hRA HSR0 hrow hce e2 e3 hgb HZ HSL
        by_cases hiss : x.data.toList = issueT
        · skip
          have HF0 := Lib.hid (show lineP s.data.toList = (opP (r.map (·.data.toList))).map fun o => { Sp.zero with op := o } by rw [HLP.out, List.map_cons, hiss]; rfl)
          have qi : (x.toList == [105, 115, 115, 117, 101]) = true := by rw [Lib.toList_data, hiss]; rfl
          have HIS := Lib.hid (issue_any r RA (c - 1) w2 (by omega) (by unfold maxLen; omega) HZR.out (HSR.out w2 (Kept.refl _ _)))
          obtain ⟨oo, hoo⟩ : ∃ oo, opP (r.map (·.data.toList)) = oo := ⟨_, rfl⟩
          rw [hoo] at HIS HF0
          clear hoo hiss
          go_wp2_with fail
          refine HIS.out.mono ?_
          rintro e w3 ⟨hb3, o, MA, ml, mc, ok, rfl, hok, hq⟩
          have HOK := Lib.hid hok
          have HQ := Lib.hid hq
          have HR3 := Lib.hid (HR2.out.below hb3 HR2.out.lt)
          have HK3 := Lib.hid (HK2.out.trans (Kept.ofB (S := fun _ => False) hb3))
          clear hb3 HIS hok hq
          unfold OC
          go_upto_region 9 with (show wpList _ _ _ ((⟨none, .store 39 (.tmp 6) _, _, _, _, none⟩ : Oper) :: _) _ _; refine wpList_store_mid rfl 39 (.tmp 6) _ rfl w3.heap.size 0 #[.int .i64 o.kind, .int .i64 o.vip, .int .i64 o.backend, .int .i64 o.version, .bool o.a.six, .int .u64 (o.a.hi : Int), .int .u64 (o.a.lo : Int), .int .u16 (o.port : Int), .int .u8 (o.proto : Int), .int .i64 o.way, .slice MA ml mc] rfl rfl ((Blk.new w3 39 #[.int .i64 0, .int .i64 0, .int .i64 0, .int .i64 0, .bool false, .int .u64 0, .int .u64 0, .int .u16 0, .int .u8 0, .int .i64 0, .slice none 0 0]).there rfl) (by kernel_rfl) (by simp [Value.oneCell']) ?_)
          generalize hw4 : (World.setCells _ _ _ _) = w4
          have HKA := Lib.hid (show Kept (fun _ => False) w3 w4 by rw [← hw4]; exact ((Kept.refl _ _).alloc _).then (Kept.setCells (S := fun i => i = w3.heap.size) rfl _ _ (Kept.refl _ _)) (fun i hi e => by omega))
          have HO4 := Lib.hid (show Blk w4 w3.heap.size 39 #[.int .i64 o.kind, .int .i64 o.vip, .int .i64 o.backend, .int .i64 o.version, .bool o.a.six, .int .u64 (o.a.hi : Int), .int .u64 (o.a.lo : Int), .int .u16 (o.port : Int), .int .u8 (o.proto : Int), .int .i64 o.way, .slice MA ml mc] by rw [← hw4]; exact (Blk.new w3 39 #[.int .i64 0, .int .i64 0, .int .i64 0, .int .i64 0, .bool false, .int .u64 0, .int .u64 0, .int .u16 0, .int .u8 0, .int .i64 0, .slice none 0 0]).setAll #[.int .i64 o.kind, .int .i64 o.vip, .int .i64 o.backend, .int .i64 o.version, .bool o.a.six, .int .u64 (o.a.hi : Int), .int .u64 (o.a.lo : Int), .int .u16 (o.port : Int), .int .u8 (o.proto : Int), .int .i64 o.way, .slice MA ml mc] rfl)
          have HR4 := Lib.hid (HR3.out.kept HKA.out (fun h => h))
          have HK4 := Lib.hid (HK3.out.trans HKA.out)
          obtain ⟨ob, hob⟩ : ∃ ob, w3.heap.size = ob := ⟨_, rfl⟩
          rw [hob] at HO4 ⊢
          clear hw4 hob
          cases ok with
          | false =>
            have HF := Lib.hid (show lineP s.data.toList = none by
              rw [HF0.out]
              cases oo with
              | none => rfl
              | some q => cases HOK.out)
            go_wp2_with (show wpList _ _ _ ((⟨none, .store 41 (.tmp 2) _, _, _, _, none⟩ : Oper) :: _) _ _; refine wpList_store_mid rfl 41 (.tmp 2) _ rfl rb 0 #[.int .i64 0, .int .i64 0, .int .i64 0, .int .i64 0, .int .i64 0, .bool false, .int .u64 0, .int .u64 0, .int .u16 0, .int .u8 0, .int .i64 0, .slice none 0 0, .int .i64 0, .int .i64 0, .int .u8 0, .slice none 0 0, .int .u32 0, .int .u32 0, .int .u32 0, .bool false, .int .u64 0, .int .u64 0, .int .u16 0] rfl rfl (HR4.out.there rfl) (by kernel_rfl) (by simp [Value.oneCell']) ?_)
            generalize hw9 : (World.setCells _ _ _ _) = w9
            have HK9 := Lib.hid (show Kept (fun i => i = rb) w4 w9 by rw [← hw9]; exact Kept.setCells (S := fun i => i = rb) rfl _ _ (Kept.refl _ _))
            have HR9 := Lib.hid (show Blk w9 rb 41 #[.int .i64 0, .int .i64 0, .int .i64 0, .int .i64 0, .int .i64 0, .bool false, .int .u64 0, .int .u64 0, .int .u16 0, .int .u8 0, .int .i64 0, .slice none 0 0, .int .i64 0, .int .i64 0, .int .u8 0, .slice none 0 0, .int .u32 0, .int .u32 0, .int .u32 0, .bool false, .int .u64 0, .int .u64 0, .int .u16 0] by rw [← hw9]; exact HR4.out.setAll #[.int .i64 0, .int .i64 0, .int .i64 0, .int .i64 0, .int .i64 0, .bool false, .int .u64 0, .int .u64 0, .int .u16 0, .int .u8 0, .int .i64 0, .slice none 0 0, .int .i64 0, .int .i64 0, .int .u8 0, .slice none 0 0, .int .u32 0, .int .u32 0, .int .u32 0, .bool false, .int .u64 0, .int .u64 0, .int .u16 0] rfl)
            clear hw9
            have HBZ := Lib.hid ((HK4.out.below (Nat.le_refl _) (fun i h => h.elim)).trans (HK9.out.below HK4.out.size (fun i e => by have := HRB.out; omega)))
            refine bodyPost_ret (results_blk_tmp (P := Tryz.prog) (show Tryz.f7.results = _ from rfl) _ _ rb 41 #[.int .i64 0, .int .i64 0, .int .i64 0, .int .i64 0, .int .i64 0, .bool false, .int .u64 0, .int .u64 0, .int .u16 0, .int .u8 0, .int .i64 0, .slice none 0 0, .int .i64 0, .int .i64 0, .int .u8 0, .slice none 0 0, .int .u32 0, .int .u32 0, .int .u32 0, .bool false, .int .u64 0, .int .u64 0, .int .u16 0] _ rfl HR9.out Tryz.underlying41 rfl (by kernel_rfl)) rfl ⟨HBZ.out, ?_⟩
            rw [HF.out]; try exact rfl
          | true =>
            cases oo with
            | none => cases HOK.out
            | some q =>
              obtain ⟨e1, hmem⟩ := HQ.out q rfl
              subst e1
              have HM3 := Lib.hid hmem
              have HRN := Lib.hid (show ¬ (Value.slice MA ml mc).ownBlock = some rb from hmem.ne HR3.out (by decide))
              have HSZ := Lib.hid (show w.heap.size ≤ w2.heap.size from HK2.out.size)
              clear hmem
              have HF := Lib.hid (show lineP s.data.toList = some { Sp.zero with op := o } by rw [HF0.out]; rfl)
              go_wp2_with (first | (show wpList _ _ _ ((⟨_, .load 39 (.tmp 6), _, _, _, none⟩ : Oper) :: _) _ _; refine wpList_load_mid rfl 39 (.tmp 6) rfl ob 0 rfl [.int .i64 o.kind, .int .i64 o.vip, .int .i64 o.backend, .int .i64 o.version, .bool o.a.six, .int .u64 (o.a.hi : Int), .int .u64 (o.a.lo : Int), .int .u16 (o.port : Int), .int .u8 (o.proto : Int), .int .i64 o.way, .slice MA ml mc] _ HO4.out.range Tryz.underlying39 rfl (by kernel_rfl) ?_) | (show wpList _ _ _ ((⟨none, .store 41 (.tmp 2) _, _, _, _, none⟩ : Oper) :: _) _ _; refine wpList_store_mid rfl 41 (.tmp 2) _ rfl rb 0 #[.int .i64 0, .int .i64 o.kind, .int .i64 o.vip, .int .i64 o.backend, .int .i64 o.version, .bool o.a.six, .int .u64 (o.a.hi : Int), .int .u64 (o.a.lo : Int), .int .u16 (o.port : Int), .int .u8 (o.proto : Int), .int .i64 o.way, .slice MA ml mc, .int .i64 0, .int .i64 0, .int .u8 0, .slice none 0 0, .int .u32 0, .int .u32 0, .int .u32 0, .bool false, .int .u64 0, .int .u64 0, .int .u16 0] rfl rfl (HR4.out.there rfl) (by kernel_rfl) (by simp [Value.oneCell']) ?_))
              generalize hw9 : (World.setCells _ _ _ _) = w9
              have HK9 := Lib.hid (show Kept (fun i => i = rb) w4 w9 by rw [← hw9]; exact Kept.setCells (S := fun i => i = rb) rfl _ _ (Kept.refl _ _))
              have HR9 := Lib.hid (show Blk w9 rb 41 #[.int .i64 0, .int .i64 o.kind, .int .i64 o.vip, .int .i64 o.backend, .int .i64 o.version, .bool o.a.six, .int .u64 (o.a.hi : Int), .int .u64 (o.a.lo : Int), .int .u16 (o.port : Int), .int .u8 (o.proto : Int), .int .i64 o.way, .slice MA ml mc, .int .i64 0, .int .i64 0, .int .u8 0, .slice none 0 0, .int .u32 0, .int .u32 0, .int .u32 0, .bool false, .int .u64 0, .int .u64 0, .int .u16 0] by rw [← hw9]; exact HR4.out.setAll #[.int .i64 0, .int .i64 o.kind, .int .i64 o.vip, .int .i64 o.backend, .int .i64 o.version, .bool o.a.six, .int .u64 (o.a.hi : Int), .int .u64 (o.a.lo : Int), .int .u16 (o.port : Int), .int .u8 (o.proto : Int), .int .i64 o.way, .slice MA ml mc, .int .i64 0, .int .i64 0, .int .u8 0, .slice none 0 0, .int .u32 0, .int .u32 0, .int .u32 0, .bool false, .int .u64 0, .int .u64 0, .int .u16 0] rfl)
              clear hw9
              have HBZ := Lib.hid ((HK4.out.below (Nat.le_refl _) (fun i h => h.elim)).trans (HK9.out.below HK4.out.size (fun i e => by have := HRB.out; omega)))
              refine bodyPost_ret (results_blk_tmp (P := Tryz.prog) (show Tryz.f7.results = _ from rfl) _ _ rb 41 #[.int .i64 0, .int .i64 o.kind, .int .i64 o.vip, .int .i64 o.backend, .int .i64 o.version, .bool o.a.six, .int .u64 (o.a.hi : Int), .int .u64 (o.a.lo : Int), .int .u16 (o.port : Int), .int .u8 (o.proto : Int), .int .i64 o.way, .slice MA ml mc, .int .i64 0, .int .i64 0, .int .u8 0, .slice none 0 0, .int .u32 0, .int .u32 0, .int .u32 0, .bool false, .int .u64 0, .int .u64 0, .int .u16 0] _ rfl HR9.out Tryz.underlying41 rfl (by kernel_rfl)) rfl ⟨HBZ.out, ?_⟩
              rw [HF.out]; exact ⟨_, _, rfl, ((RowN.kept HM3.out HKA.out (fun _ _ h => h)).kept HK9.out (fun g hg e => HRN.out (by rw [hg, e]))).more HSZ.out, LoadIn.nil _⟩
        · skip
          have qi : (x.toList == [105, 115, 115, 117, 101]) = false := by rw [Lib.toList_data]; exact beq_eq_false_iff_ne.2 hiss
          have HNI := Lib.hid hiss
          clear hiss
          go_upto_region 13 with fail
          obtain ⟨wa, hwa⟩ : ∃ wa : World, wa = w2.alloc (.cells #[.string ⟨#[]⟩, .string ⟨#[99, 111, 109, 109, 105, 116]⟩, .string ⟨#[99, 114, 97, 115, 104]⟩, .string ⟨#[111, 102, 102, 101, 114]⟩, .string ⟨#[100, 101, 108, 105, 118, 101, 114]⟩, .string ⟨#[100, 114, 111, 112]⟩, .string ⟨#[116, 119, 105, 99, 101]⟩, .string ⟨#[114, 101, 115, 116, 97, 114, 116]⟩, .string ⟨#[114, 101, 112, 111, 114, 116]⟩, .string ⟨#[115, 101, 110, 100]⟩, .string ⟨#[114, 101, 112, 108, 121]⟩, .string ⟨#[116, 105, 99, 107]⟩, .string ⟨#[113, 117, 105, 99]⟩, .string ⟨#[103, 105, 118, 101]⟩, .string ⟨#[109, 111, 118, 101]⟩, .string ⟨#[115, 101, 116, 116, 108, 101]⟩] 9) := ⟨_, rfl⟩
          have HKa := Lib.hid (show Kept (fun _ => False) w2 wa by rw [hwa]; exact (Kept.refl _ _).alloc _)
          have HNa := Lib.hid (show Blk wa w2.heap.size 9 #[.string ⟨#[]⟩, .string ⟨#[99, 111, 109, 109, 105, 116]⟩, .string ⟨#[99, 114, 97, 115, 104]⟩, .string ⟨#[111, 102, 102, 101, 114]⟩, .string ⟨#[100, 101, 108, 105, 118, 101, 114]⟩, .string ⟨#[100, 114, 111, 112]⟩, .string ⟨#[116, 119, 105, 99, 101]⟩, .string ⟨#[114, 101, 115, 116, 97, 114, 116]⟩, .string ⟨#[114, 101, 112, 111, 114, 116]⟩, .string ⟨#[115, 101, 110, 100]⟩, .string ⟨#[114, 101, 112, 108, 121]⟩, .string ⟨#[116, 105, 99, 107]⟩, .string ⟨#[113, 117, 105, 99]⟩, .string ⟨#[103, 105, 118, 101]⟩, .string ⟨#[109, 111, 118, 101]⟩, .string ⟨#[115, 101, 116, 116, 108, 101]⟩] by rw [hwa]; exact Blk.new _ _ _)
          rw [← hwa]
          clear hwa
          obtain ⟨nb, hnb⟩ : ∃ nb, w2.heap.size = nb := ⟨_, rfl⟩
          rw [hnb] at HNa ⊢
          clear hnb
          go_upto_region 14 with fail
          obtain ⟨w3, hw3⟩ : ∃ w3 : World, w3 = wa.alloc (.cells #[.string ⟨#[]⟩, .string ⟨#[]⟩, .string ⟨#[87, 70]⟩, .string ⟨#[87]⟩, .string ⟨#[87]⟩, .string ⟨#[87]⟩, .string ⟨#[87]⟩, .string ⟨#[87]⟩, .string ⟨#[87, 78, 49]⟩, .string ⟨#[87, 65, 70, 88, 89, 84]⟩, .string ⟨#[87, 65, 70, 84]⟩, .string ⟨#[78]⟩, .string ⟨#[87, 65, 84]⟩, .string ⟨#[87, 65]⟩, .string ⟨#[87, 97, 80]⟩, .string ⟨#[57]⟩] 9) := ⟨_, rfl⟩
          have HK23 := Lib.hid (show Kept (fun _ => False) w2 w3 by rw [hw3]; exact HKa.out.alloc _)
          have HNM := Lib.hid (show Blk w3 nb 9 #[.string ⟨#[]⟩, .string ⟨#[99, 111, 109, 109, 105, 116]⟩, .string ⟨#[99, 114, 97, 115, 104]⟩, .string ⟨#[111, 102, 102, 101, 114]⟩, .string ⟨#[100, 101, 108, 105, 118, 101, 114]⟩, .string ⟨#[100, 114, 111, 112]⟩, .string ⟨#[116, 119, 105, 99, 101]⟩, .string ⟨#[114, 101, 115, 116, 97, 114, 116]⟩, .string ⟨#[114, 101, 112, 111, 114, 116]⟩, .string ⟨#[115, 101, 110, 100]⟩, .string ⟨#[114, 101, 112, 108, 121]⟩, .string ⟨#[116, 105, 99, 107]⟩, .string ⟨#[113, 117, 105, 99]⟩, .string ⟨#[103, 105, 118, 101]⟩, .string ⟨#[109, 111, 118, 101]⟩, .string ⟨#[115, 101, 116, 116, 108, 101]⟩] by rw [hw3]; exact HNa.out.alloc _)
          have HPT := Lib.hid (show Blk w3 wa.heap.size 9 #[.string ⟨#[]⟩, .string ⟨#[]⟩, .string ⟨#[87, 70]⟩, .string ⟨#[87]⟩, .string ⟨#[87]⟩, .string ⟨#[87]⟩, .string ⟨#[87]⟩, .string ⟨#[87]⟩, .string ⟨#[87, 78, 49]⟩, .string ⟨#[87, 65, 70, 88, 89, 84]⟩, .string ⟨#[87, 65, 70, 84]⟩, .string ⟨#[78]⟩, .string ⟨#[87, 65, 84]⟩, .string ⟨#[87, 65]⟩, .string ⟨#[87, 97, 80]⟩, .string ⟨#[57]⟩] by rw [hw3]; exact Blk.new _ _ _)
          rw [← hw3]
          clear hw3
          obtain ⟨pb, hpb⟩ : ∃ pb, wa.heap.size = pb := ⟨_, rfl⟩
          rw [hpb] at HPT ⊢
          clear hpb HNa HKa
          go_wp2_with fail
          go_loopw [10] (fun n wr => ∃ k : Nat, 1 ≤ k ∧ k ≤ 16 ∧ n = .int .i64 (k : Int) ∧ Hid (∀ j, 1 ≤ j → j < k → (nmB j).data.toList ≠ x.data.toList) ∧ Hid (Kept (fun _ => False) w3 wr)) (fun n _ => 16 - (intOf n).toNat)
          case atStart => exact ⟨1, by omega, by omega, rfl, Lib.hid (fun j h1 h2 => by omega), Lib.hid (Kept.refl _ _)⟩
          case round =>
            obtain ⟨k, hk1, hk16, rfl, HPR, HKW⟩ := hrel
            have k0 : (1 : Int) ≤ (k : Int) := by omega
            have HRW := Lib.hid ((HR2.out.kept HK23.out (fun h => h)).kept HKW.out (fun h => h))
            have HKB := Lib.hid (HK2.out.trans (HK23.out.trans HKW.out))
            by_cases hlt : k < 16
            · have kI : (k : Int) < 16 := by omega
              have cN : wr.cell? ⟨nb, k, none⟩ = some (.string (nmB k)) := by rw [HKW.out.cell HNM.out.lt (fun h => h), HNM.out.cell]; exact nms_at k hk1 (by omega)
              have cP : wr.cell? ⟨pb, k, none⟩ = some (.string (ptB k)) := by rw [HKW.out.cell HPT.out.lt (fun h => h), HPT.out.cell]; exact pts_at k hk1 (by omega)
              have cX : wr.cell? ⟨g, 0, none⟩ = some (.string x) := ((HK23.out.trans HKW.out).cell hgl (fun h => h) 0).trans c0
              have lNW : nb < wr.heap.size := Nat.lt_of_lt_of_le HNM.out.lt HKW.out.size
              have lXW : g < wr.heap.size := Nat.lt_of_lt_of_le hgl (HK23.out.trans HKW.out).size
              have lPW : pb < wr.heap.size := Nat.lt_of_lt_of_le HPT.out.lt HKW.out.size
              obtain ⟨hcm, -, hps⟩ := cmd_at k hk1 (by omega)
              have HAL := Lib.hid (pt_letters k hk1 (by omega))
              obtain ⟨nk, hnk⟩ : ∃ nk, nmB k = nk := ⟨_, rfl⟩
              obtain ⟨pk, hpk⟩ : ∃ pk, ptB k = pk := ⟨_, rfl⟩
              rw [hnk] at cN hcm
              rw [hpk] at cP hcm hps HAL
              have HCM := Lib.hid hcm
              have HNK := Lib.hid hnk
              have HPKE := Lib.hid hpk
              have hpk10 : pk.size ≤ 10 := by omega
              clear hcm hnk hpk
              by_cases he : nk.data.toList = x.data.toList
              · have qe : (nk.toList == x.toList) = true := by rw [Lib.toList_data, Lib.toList_data, he]; simp
                have HF0 := Lib.hid (show lineP s.data.toList = (fitS pk.data.toList (r.map (·.data.toList)) Fd.zero).map (fillP k pk.data.toList) by
                  rw [HLP.out, List.map_cons]
                  unfold wordsP
                  simp only
                  rw [if_neg HNI.out, ← he, HCM.out])
                obtain ⟨fo, hfo⟩ : ∃ fo, fitS pk.data.toList (r.map (·.data.toList)) Fd.zero = fo := ⟨_, rfl⟩
                have HFO := Lib.hid hfo
                have HFB := Lib.hid (show ∀ g, fo = some g → g.load.length ≤ 4000 ∧ g.nums.length ≤ 4000 from fun g hg => by
                  have h1 := fitS_load (hfo.trans hg)
                  have h2 := fitS_len (hfo.trans hg)
                  have h3 := List.length_filter_le isNum pk.data.toList
                  rw [← Lib.size_eq] at h3
                  have h4 := HZR.out
                  have h5 : Fd.zero.load.length = 0 := rfl
                  omega)
                rw [hfo] at HF0
                clear he hfo
                go_upto_region 17 with fail
                refine wp_region_kept 8 [] ?st ?ne rfl (by kernel_rfl) (by kernel_rfl) ?_
                case st => intro p hp; cases hp
                case ne => intro p hp; cases hp
                simp only [List.take_succ_cons, List.take_zero, List.drop_succ_cons, List.drop_zero]
                intro G pick hR hp1 hp2
                have sN : ∀ u, (pick u).cell? ⟨nb, k, none⟩ = some (.string nk) := fun u => ((hp1 u).cell lNW (fun h => h) _).trans cN
                have sX : ∀ u, (pick u).cell? ⟨g, 0, none⟩ = some (.string x) := fun u => ((hp1 u).cell lXW (fun h => h) _).trans cX
                repeat (first | (refine wpR_det hp2 rfl ((hR.rel _).trans rfl) rfl ?_; intro K hK; go_big_quiet_op; go_big_quiet_on) | (refine wpR_ptr hp2 rfl ((hR.rel _).trans rfl) rfl rfl ?_; intro K hK; go_big_quiet_op; go_big_quiet_on) | (refine wpR_skip pick rfl ?_; intro K hK; go_big_quiet_op; go_big_quiet_on))
                refine wpR_nil ?_
                intro w4 hk2 hF hM
                have HKW := Lib.hid (HKW.out.trans hk2)
                have HRW := Lib.hid (HRW.out.kept hk2 (fun h => h))
                have HKB := Lib.hid (HKB.out.trans hk2)
                have cP : w4.cell? ⟨pb, k, none⟩ = some (.string pk) := (hk2.cell lPW (fun h => h) _).trans cP
                have lPW : pb < w4.heap.size := Nat.lt_of_lt_of_le lPW hk2.size
                clear hF hM hk2 hp1 hp2 hR sN sX cN cX
                go_upto_region 18 with fail
                refine wp_region_kept 8 [(6, fun v u => FitM fo w3.heap.size v u), (7, fun v u => ∃ g, v = .pointer (some ⟨g, 0, none⟩) ∧ w3.heap.size ≤ g ∧ Blk u g 60 #[.int .i64 0, .int .i64 0, .int .i64 0, .int .i64 0, .int .i64 0, .bool false, .int .u64 0, .int .u64 0, .int .u16 0, .int .u8 0, .int .i64 0, .slice none 0 0, .int .i64 0, .int .i64 0, .int .u8 0, .slice none 0 0, .int .u32 0, .int .u32 0, .int .u32 0, .bool false, .int .u64 0, .int .u64 0, .int .u16 0, .slice none 0 0, .bool false, .int .u64 0, .int .u64 0, .int .i64 0, .int .u8 0, .int .i64 0, .bool false])] ?st ?ne rfl (by kernel_rfl) (by kernel_rfl) ?_
                case st =>
                  intro p hp
                  simp only [List.mem_cons, List.not_mem_nil, or_false] at hp
                  rcases hp with rfl | rfl
                  · intro v u u' h hk; exact h.on hk
                  · rintro v u u' ⟨g, rfl, h0, h⟩ hk; exact ⟨g, rfl, h0, h.kept hk (fun h => h)⟩
                case ne =>
                  intro p hp
                  simp only [List.mem_cons, List.not_mem_nil, or_false] at hp
                  rcases hp with rfl | rfl
                  · exact fitM_ex _ _ _ HFB.out HKW.out.size
                  · exact ⟨_, _, (Kept.refl _ _).alloc _, _, rfl, HKW.out.size, Blk.new _ _ _⟩
                simp only [List.take_succ_cons, List.take_zero, List.drop_succ_cons, List.drop_zero]
                intro G pick hR hp1 hp2
                have sP : ∀ u, (pick u).cell? ⟨pb, k, none⟩ = some (.string pk) := fun u => ((hp1 u).cell lPW (fun h => h) _).trans cP
                repeat (first | (refine wpR_det hp2 rfl ((hR.rel _).trans rfl) rfl ?_; intro K hK; go_big_quiet_op; go_big_quiet_on) | (refine wpR_ptr hp2 rfl ((hR.rel _).trans rfl) rfl rfl ?_; intro K hK; go_big_quiet_op; go_big_quiet_on) | (refine wpR_skip pick rfl ?_; intro K hK; go_big_quiet_op; go_big_quiet_on))
                refine wpR_rel pick rfl ((hR.rel _).trans rfl) ((hR.turns _).trans rfl) ?_ ?_
                · intro u hu
                  have hk := hR.since hu.1
                  have hks := hk.size
                  have hfit := fit_any pk r RA (c - 1) u hpk10 (by omega) (by unfold maxLen; omega) HZR.out (HSR.out u (HK23.out.trans (HKW.out.trans hk)))
                  rw [HFO.out] at hfit
                  unfold relAt
                  go_simp
                  refine hfit.mono ?_
                  rintro e w' hf'
                  have hbx := hf'.1
                  obtain ⟨v', rfl, hv'⟩ := fitRet_fm hf' (Nat.le_trans HKW.out.size hks)
                  exact ⟨_, rfl, hR.intoB hbx, hR.put 0 rfl rfl hv'⟩
                intro v hv
                obtain ⟨u, _, hu⟩ := hv
                obtain ⟨LA, ln, lc, NA, nn, nc, f, ok, rfl, hfm⟩ := hR.get 0 rfl hu
                clear hu
                clear hfm
                intro K hK
                go_big_quiet_op
                go_big_quiet_on
                repeat (first | (refine wpR_det hp2 rfl ((hR.rel _).trans rfl) rfl ?_; intro K hK; go_big_quiet_op; go_big_quiet_on) | (refine wpR_ptr hp2 rfl ((hR.rel _).trans rfl) rfl rfl ?_; intro K hK; go_big_quiet_op; go_big_quiet_on) | (refine wpR_skip pick rfl ?_; intro K hK; go_big_quiet_op; go_big_quiet_on))
                refine wpR_rel pick rfl ((hR.rel _).trans rfl) ((hR.turns _).trans rfl) ?_ ?_
                · intro u hu
                  have hk := hR.since hu.1
                  have hks := hk.size
                  unfold relAt
                  go_simp
                  exact ⟨hR.into0 ((Kept.refl _ _).alloc _), hR.put 1 rfl rfl ⟨_, rfl, Nat.le_trans HKW.out.size hks, Blk.new _ _ _⟩⟩
                intro v hv
                obtain ⟨u, _, hu⟩ := hv
                obtain ⟨fb, rfl, hfg, hfbx⟩ := hR.get 1 rfl hu
                clear hu
                clear hfbx
                intro K hK
                go_big_quiet_op
                go_big_quiet_on
                repeat (first | (refine wpR_det hp2 rfl ((hR.rel _).trans rfl) rfl ?_; intro K hK; go_big_quiet_op; go_big_quiet_on) | (refine wpR_ptr hp2 rfl ((hR.rel _).trans rfl) rfl rfl ?_; intro K hK; go_big_quiet_op; go_big_quiet_on) | (refine wpR_skip pick rfl ?_; intro K hK; go_big_quiet_op; go_big_quiet_on))
                refine wpR_nil ?_
                intro w5 hk2 hF hM
                have HKW5 := Lib.hid (HKW.out.trans hk2)
                have hfv := (hR.get 0 rfl (hF _ _ (Got.upd_old (Got.upd_self _ _ _) rfl)))
                obtain ⟨LA1, ln1, lc1, NA1, nn1, nc1, f1, ok1, hve1, hm1⟩ := hfv
                obtain ⟨fb', hfe, hfg', hFB'⟩ := (hR.get 1 rfl (hF _ _ (Got.upd_self _ _ _)))
                injection hfe with hfe
                injection hfe with hfe
                injection hfe with hfe
                subst hfe
                have HFB5 := Lib.hid hFB'
                have HFG := Lib.hid hfg
                have HKX := Lib.hid hk2
                have HM1 := Lib.hid hm1
                rw [hve1]
                clear hve1 hFB' hfg hfg' hF hM hk2 hp1 hp2 hR sP cP lPW hm1
                refine wpList_store_mid rfl 60 (.tmp 11) _ rfl fb 0 #[.int .i64 0, .int .i64 0, .int .i64 0, .int .i64 0, .int .i64 0, .bool false, .int .u64 0, .int .u64 0, .int .u16 0, .int .u8 0, .int .i64 0, .slice none 0 0, .int .i64 0, .int .i64 0, .int .u8 0, (.slice LA1 ln1 lc1), .int .u32 0, .int .u32 0, .int .u32 0, .bool false, .int .u64 0, .int .u64 0, .int .u16 0, (.slice NA1 nn1 nc1), .bool f1.a.six, .int .u64 (f1.a.hi : Int), .int .u64 (f1.a.lo : Int), .int .i64 (f1.po : Int), .int .u8 (f1.p : Int), .int .i64 (f1.wy : Int), .bool ok1] rfl rfl (HFB5.out.there rfl) (by kernel_rfl) (by simp [Value.oneCell']) ?_
                generalize hw6 : World.setCells _ _ _ _ = w6
                have HK56 := Lib.hid (show Kept (fun i => i = fb) w5 w6 by rw [← hw6]; exact Kept.setCells (S := fun i => i = fb) rfl _ _ (Kept.refl _ _))
                have HF6 := Lib.hid (show Blk w6 fb 60 #[.int .i64 0, .int .i64 0, .int .i64 0, .int .i64 0, .int .i64 0, .bool false, .int .u64 0, .int .u64 0, .int .u16 0, .int .u8 0, .int .i64 0, .slice none 0 0, .int .i64 0, .int .i64 0, .int .u8 0, (.slice LA1 ln1 lc1), .int .u32 0, .int .u32 0, .int .u32 0, .bool false, .int .u64 0, .int .u64 0, .int .u16 0, (.slice NA1 nn1 nc1), .bool f1.a.six, .int .u64 (f1.a.hi : Int), .int .u64 (f1.a.lo : Int), .int .i64 (f1.po : Int), .int .u8 (f1.p : Int), .int .i64 (f1.wy : Int), .bool ok1] by rw [← hw6]; exact HFB5.out.setAll #[.int .i64 0, .int .i64 0, .int .i64 0, .int .i64 0, .int .i64 0, .bool false, .int .u64 0, .int .u64 0, .int .u16 0, .int .u8 0, .int .i64 0, .slice none 0 0, .int .i64 0, .int .i64 0, .int .u8 0, (.slice LA1 ln1 lc1), .int .u32 0, .int .u32 0, .int .u32 0, .bool false, .int .u64 0, .int .u64 0, .int .u16 0, (.slice NA1 nn1 nc1), .bool f1.a.six, .int .u64 (f1.a.hi : Int), .int .u64 (f1.a.lo : Int), .int .i64 (f1.po : Int), .int .u8 (f1.p : Int), .int .i64 (f1.wy : Int), .bool ok1] rfl)
                have HR5 := Lib.hid (HRW.out.kept HKX.out (fun h => h))
                have HR6 := Lib.hid (HR5.out.kept HK56.out (fun e => HR5.out.ne_ HFB5.out (by decide) e))
                have HP5 := Lib.hid (HPT.out.kept HKW5.out (fun h => h))
                have HP6 := Lib.hid (HP5.out.kept HK56.out (fun e => HP5.out.ne_ HFB5.out (by decide) e))
                have HK6 := Lib.hid (show Kept (fun _ => False) w w6 from ((HKB.out.trans HKX.out)).then HK56.out (fun i hi e => by have h1 := HFG.out; have h2 := (HK2.out.trans HK23.out).size; omega))
                clear hw6 HRW HKB HKX HKW
                have cF := HF6.out.cell
                have lF := HF6.out.lt
                cases ok1 with
                | false =>
                  have HF := Lib.hid (show lineP s.data.toList = none by
                    rw [HF0.out]
                    cases fo with
                    | none => rfl
                    | some q => exact absurd HM1.out.1 (by decide))
                  go_wp2_with (show wpList _ _ _ ((⟨none, .store 41 (.tmp 2) _, _, _, _, none⟩ : Oper) :: _) _ _; refine wpList_store_mid rfl 41 (.tmp 2) _ rfl rb 0 #[.int .i64 0, .int .i64 0, .int .i64 0, .int .i64 0, .int .i64 0, .bool false, .int .u64 0, .int .u64 0, .int .u16 0, .int .u8 0, .int .i64 0, .slice none 0 0, .int .i64 0, .int .i64 0, .int .u8 0, .slice none 0 0, .int .u32 0, .int .u32 0, .int .u32 0, .bool false, .int .u64 0, .int .u64 0, .int .u16 0] rfl rfl (HR6.out.there rfl) (by kernel_rfl) (by simp [Value.oneCell']) ?_)
                  generalize hw9 : (World.setCells _ _ _ _) = w9
                  have HK9 := Lib.hid (show Kept (fun i => i = rb) w6 w9 by rw [← hw9]; exact Kept.setCells (S := fun i => i = rb) rfl _ _ (Kept.refl _ _))
                  have HR9 := Lib.hid (show Blk w9 rb 41 #[.int .i64 0, .int .i64 0, .int .i64 0, .int .i64 0, .int .i64 0, .bool false, .int .u64 0, .int .u64 0, .int .u16 0, .int .u8 0, .int .i64 0, .slice none 0 0, .int .i64 0, .int .i64 0, .int .u8 0, .slice none 0 0, .int .u32 0, .int .u32 0, .int .u32 0, .bool false, .int .u64 0, .int .u64 0, .int .u16 0] by rw [← hw9]; exact HR6.out.setAll #[.int .i64 0, .int .i64 0, .int .i64 0, .int .i64 0, .int .i64 0, .bool false, .int .u64 0, .int .u64 0, .int .u16 0, .int .u8 0, .int .i64 0, .slice none 0 0, .int .i64 0, .int .i64 0, .int .u8 0, .slice none 0 0, .int .u32 0, .int .u32 0, .int .u32 0, .bool false, .int .u64 0, .int .u64 0, .int .u16 0] rfl)
                  clear hw9
                  have HBZ := Lib.hid ((HK6.out.below (Nat.le_refl _) (fun i h => h.elim)).trans (HK9.out.below HK6.out.size (fun i e => by have := HRB.out; omega)))
                  refine bodyPost_ret (results_blk_tmp (P := Tryz.prog) (show Tryz.f7.results = _ from rfl) _ _ rb 41 #[.int .i64 0, .int .i64 0, .int .i64 0, .int .i64 0, .int .i64 0, .bool false, .int .u64 0, .int .u64 0, .int .u16 0, .int .u8 0, .int .i64 0, .slice none 0 0, .int .i64 0, .int .i64 0, .int .u8 0, .slice none 0 0, .int .u32 0, .int .u32 0, .int .u32 0, .bool false, .int .u64 0, .int .u64 0, .int .u16 0] _ rfl HR9.out Tryz.underlying41 rfl (by kernel_rfl)) rfl ⟨HBZ.out, ?_⟩
                  rw [HF.out]; try exact rfl
                | true =>
                  cases fo with
                  | none => exact absurd (show true = false from HM1.out) (by decide)
                  | some q =>
                    obtain ⟨-, hfq, hld0, hnu0⟩ := HM1.out
                    subst hfq
                    have HF := Lib.hid (show lineP s.data.toList = some (fillP k pk.data.toList f1) by rw [HF0.out]; rfl)
                    have HLD6 := Lib.hid (hld0.keep (fun g cs fr hg => HK56.out.block g (lt_of_heap hg) (fun e => by subst e; exact blk_not HFB5.out hg (by decide))))
                    have HNU6 := Lib.hid (Row.kept hnu0 HK56.out (fun g hg e => by subst e; exact Row.ne hnu0 HFB5.out (by decide) hg))
                    have HPO := Lib.hid (fitS_po HFO.out (by decide))
                    have hpo0 : (0 : Int) ≤ (f1.po : Int) := Int.natCast_nonneg _
                    have hpo1 : (f1.po : Int) ≤ 65535 := by have := HPO.out; omega
                    have HON := Lib.hid (show okN pk.data.toList f1.nums from fitS_okN HAL.out HFO.out)
                    have hrg : w6.rangeAt fb 0 [.int .i64 0, .int .i64 0, .int .i64 0, .int .i64 0, .int .i64 0, .bool false, .int .u64 0, .int .u64 0, .int .u16 0, .int .u8 0, .int .i64 0, .slice none 0 0, .int .i64 0, .int .i64 0, .int .u8 0, .slice LA1 ln1 lc1, .int .u32 0, .int .u32 0, .int .u32 0, .bool false, .int .u64 0, .int .u64 0, .int .u16 0] := HF6.out.range1 (by rfl)
                    clear hld0 hnu0 HM1
                    go_upto_region 22 with (first | (show wpList _ _ _ ((⟨_, .load 41 (.tmp 72), _, _, _, none⟩ : Oper) :: _) _ _; refine wpList_load_mid rfl 41 (.tmp 72) rfl fb 0 rfl [.int .i64 0, .int .i64 0, .int .i64 0, .int .i64 0, .int .i64 0, .bool false, .int .u64 0, .int .u64 0, .int .u16 0, .int .u8 0, .int .i64 0, .slice none 0 0, .int .i64 0, .int .i64 0, .int .u8 0, .slice LA1 ln1 lc1, .int .u32 0, .int .u32 0, .int .u32 0, .bool false, .int .u64 0, .int .u64 0, .int .u16 0] _ hrg Tryz.underlying41 rfl (by kernel_rfl) ?_) | (show wpList _ _ _ ((⟨none, .store 41 (.tmp 12) _, _, _, _, none⟩ : Oper) :: _) _ _; refine wpList_store_mid rfl 41 (.tmp 12) _ rfl w6.heap.size 0 #[.int .i64 0, .int .i64 0, .int .i64 0, .int .i64 0, .int .i64 0, .bool false, .int .u64 0, .int .u64 0, .int .u16 0, .int .u8 0, .int .i64 0, .slice none 0 0, .int .i64 0, .int .i64 0, .int .u8 0, .slice LA1 ln1 lc1, .int .u32 0, .int .u32 0, .int .u32 0, .bool false, .int .u64 0, .int .u64 0, .int .u16 0] rfl rfl ((Blk.new w6 41 #[.int .i64 0, .int .i64 0, .int .i64 0, .int .i64 0, .int .i64 0, .bool false, .int .u64 0, .int .u64 0, .int .u16 0, .int .u8 0, .int .i64 0, .slice none 0 0, .int .i64 0, .int .i64 0, .int .u8 0, .slice none 0 0, .int .u32 0, .int .u32 0, .int .u32 0, .bool false, .int .u64 0, .int .u64 0, .int .u16 0]).there rfl) (by kernel_rfl) (by simp [Value.oneCell']) ?_))
                    generalize hw7 : (World.setCells _ _ _ _) = w7
                    have HKA := Lib.hid (show Kept (fun _ => False) w6 w7 by rw [← hw7]; exact ((Kept.refl _ _).alloc _).then (Kept.setCells (S := fun i => i = w6.heap.size) rfl _ _ (Kept.refl _ _)) (fun i hi e => by omega))
                    have HC7 := Lib.hid (show Blk w7 w6.heap.size 41 #[.int .i64 0, .int .i64 0, .int .i64 0, .int .i64 0, .int .i64 0, .bool false, .int .u64 0, .int .u64 0, .int .u16 0, .int .u8 0, .int .i64 0, .slice none 0 0, .int .i64 0, .int .i64 0, .int .u8 0, .slice LA1 ln1 lc1, .int .u32 0, .int .u32 0, .int .u32 0, .bool false, .int .u64 0, .int .u64 0, .int .u16 0] by rw [← hw7]; exact (Blk.new w6 41 #[.int .i64 0, .int .i64 0, .int .i64 0, .int .i64 0, .int .i64 0, .bool false, .int .u64 0, .int .u64 0, .int .u16 0, .int .u8 0, .int .i64 0, .slice none 0 0, .int .i64 0, .int .i64 0, .int .u8 0, .slice none 0 0, .int .u32 0, .int .u32 0, .int .u32 0, .bool false, .int .u64 0, .int .u64 0, .int .u16 0]).setAll #[.int .i64 0, .int .i64 0, .int .i64 0, .int .i64 0, .int .i64 0, .bool false, .int .u64 0, .int .u64 0, .int .u16 0, .int .u8 0, .int .i64 0, .slice none 0 0, .int .i64 0, .int .i64 0, .int .u8 0, .slice LA1 ln1 lc1, .int .u32 0, .int .u32 0, .int .u32 0, .bool false, .int .u64 0, .int .u64 0, .int .u16 0] rfl)
                    have HRC := Lib.hid (show ¬ rb = w6.heap.size from fun e => by have := HR6.out.lt; omega)
                    have HWC := Lib.hid (show w.heap.size ≤ w6.heap.size from HK6.out.size)
                    have HF7 := Lib.hid (HF6.out.kept HKA.out (fun h => h))
                    have HR7 := Lib.hid (HR6.out.kept HKA.out (fun h => h))
                    have HP7 := Lib.hid (HP6.out.kept HKA.out (fun h => h))
                    have HK7 := Lib.hid (HK6.out.trans HKA.out)
                    have HLD7 := Lib.hid (HLD6.out.keep (fun g cs fr hg => HKA.out.block g (lt_of_heap hg) (fun h => h)))
                    have HNU7 := Lib.hid (Row.kept HNU6.out HKA.out (fun _ _ h => h))
                    obtain ⟨cb, hcb⟩ : ∃ cb, w6.heap.size = cb := ⟨_, rfl⟩
                    rw [hcb] at HC7 HRC HWC ⊢
                    clear hw7 hcb hrg HF6 HR6 HP6 HK6 HLD6 HNU6 cF lF HKA
                    have cC := HC7.out.cell
                    have fC := HC7.out.frozen
                    have lC := HC7.out.lt
                    go_upto_region 23 with fail
                    generalize hw8 : World.setCell _ _ _ = w8
                    have HKA := Lib.hid (show Kept (fun i => i = cb) w7 w8 by rw [← hw8]; exact Kept.setIn (S := fun i => i = cb) (b := cb) rfl (Kept.refl _ _))
                    have HC8 := Lib.hid (show Blk w8 cb 41 #[.int .i64 (k : Int), .int .i64 0, .int .i64 0, .int .i64 0, .int .i64 0, .bool false, .int .u64 0, .int .u64 0, .int .u16 0, .int .u8 0, .int .i64 0, .slice none 0 0, .int .i64 0, .int .i64 0, .int .u8 0, .slice LA1 ln1 lc1, .int .u32 0, .int .u32 0, .int .u32 0, .bool false, .int .u64 0, .int .u64 0, .int .u16 0] by rw [← hw8]; exact HC7.out.set_to rfl)
                    clear hw8 cC fC lC
                    have cC := HC8.out.cell
                    have fC := HC8.out.frozen
                    have lC := HC8.out.lt
                    have HFC := Lib.hid (HF7.out.kept HKA.out (fun e => HF7.out.ne_ HC7.out (by decide) e))
                    have cF := HFC.out.cell
                    have lF := HFC.out.lt
                    have hfc : ¬ fb = cb := fun e => HFC.out.ne_ HC8.out (by decide) e
                    clear cC fC lC
                    refine wp_region_add 9 (fun i => i = cb) [6, 8] [] [(6, fun v u => Blk u cb 41 #[.int .i64 (k : Int), .int .i64 0, .int .i64 0, .int .i64 0, .int .i64 0, .bool false, .int .u64 0, .int .u64 0, .int .u16 0, .int .u8 0, .int .i64 0, .slice none 0 0, .int .i64 0, .int .i64 0, .int .u8 0, .slice LA1 ln1 lc1, .int .u32 0, .int .u32 0, .int .u32 0, .bool f1.a.six, .int .u64 (f1.a.hi : Int), .int .u64 (f1.a.lo : Int), .int .u16 0]), (8, fun v u => Blk u cb 41 #[.int .i64 (k : Int), .int .i64 0, .int .i64 0, .int .i64 0, .int .i64 0, .bool false, .int .u64 0, .int .u64 0, .int .u16 0, .int .u8 0, .int .i64 0, .slice none 0 0, .int .i64 0, .int .i64 0, .int .u8 0, .slice LA1 ln1 lc1, .int .u32 0, .int .u32 0, .int .u32 0, .bool f1.a.six, .int .u64 (f1.a.hi : Int), .int .u64 (f1.a.lo : Int), .int .u16 (f1.po : Int)])] ?st ?ne rfl (by kernel_rfl) (by kernel_rfl) (by kernel_rfl) ?_
                    case st =>
                      intro p hp
                      simp only [List.mem_cons, List.not_mem_nil, or_false] at hp
                      rcases hp with rfl | rfl
                      · intro v u u' h hk; exact h.kept hk (fun h => h)
                      · intro v u u' h hk; exact h.kept hk (fun h => h)
                    case ne =>
                      intro p hp
                      simp only [List.mem_cons, List.not_mem_nil, or_false] at hp
                      rcases hp with rfl | rfl
                      · exact ⟨undef, _, (Kept.setCells (S := fun i => i = cb) rfl _ _ (Kept.refl _ _)), HC8.out.setAll #[.int .i64 (k : Int), .int .i64 0, .int .i64 0, .int .i64 0, .int .i64 0, .bool false, .int .u64 0, .int .u64 0, .int .u16 0, .int .u8 0, .int .i64 0, .slice none 0 0, .int .i64 0, .int .i64 0, .int .u8 0, .slice LA1 ln1 lc1, .int .u32 0, .int .u32 0, .int .u32 0, .bool f1.a.six, .int .u64 (f1.a.hi : Int), .int .u64 (f1.a.lo : Int), .int .u16 0] rfl⟩
                      · exact ⟨undef, _, (Kept.setCells (S := fun i => i = cb) rfl _ _ (Kept.refl _ _)), HC8.out.setAll #[.int .i64 (k : Int), .int .i64 0, .int .i64 0, .int .i64 0, .int .i64 0, .bool false, .int .u64 0, .int .u64 0, .int .u16 0, .int .u8 0, .int .i64 0, .slice none 0 0, .int .i64 0, .int .i64 0, .int .u8 0, .slice LA1 ln1 lc1, .int .u32 0, .int .u32 0, .int .u32 0, .bool f1.a.six, .int .u64 (f1.a.hi : Int), .int .u64 (f1.a.lo : Int), .int .u16 (f1.po : Int)] rfl⟩
                    simp only [List.take_succ_cons, List.take_zero, List.drop_succ_cons, List.drop_zero]
                    intro G pick hR hp1 hp2
                    have sF : ∀ u i, (pick u).cell? ⟨fb, i, none⟩ = (#[.int .i64 0, .int .i64 0, .int .i64 0, .int .i64 0, .int .i64 0, .bool false, .int .u64 0, .int .u64 0, .int .u16 0, .int .u8 0, .int .i64 0, .slice none 0 0, .int .i64 0, .int .i64 0, .int .u8 0, (.slice LA1 ln1 lc1), .int .u32 0, .int .u32 0, .int .u32 0, .bool false, .int .u64 0, .int .u64 0, .int .u16 0, (.slice NA1 nn1 nc1), .bool f1.a.six, .int .u64 (f1.a.hi : Int), .int .u64 (f1.a.lo : Int), .int .i64 (f1.po : Int), .int .u8 (f1.p : Int), .int .i64 (f1.wy : Int), .bool true] : Array Value)[i]? := fun u i => ((hp1 u).cell lF hfc _).trans (cF i)
                    repeat (first | (refine wpR_det hp2 rfl ((hR.rel _).trans rfl) rfl ?_; intro K hK; go_big_quiet_op; go_big_quiet_on) | (refine wpR_ptr hp2 rfl ((hR.rel _).trans rfl) rfl rfl ?_; intro K hK; go_big_quiet_op; go_big_quiet_on) | (refine wpR_skip pick rfl ?_; intro K hK; go_big_quiet_op; go_big_quiet_on))
                    refine wpR_turn pick rfl ((hR.rel _).trans rfl) ((hR.turns _).trans rfl) ((hR.adds _).trans rfl) ?_ ?_
                    · intro u hu hM
                      have hk := hR.since hu.1
                      have hks := hk.size
                      have hK0 := hR.first hM
                      have hB0 := HC8.out.kept hK0 (fun h => h)
                      refine relAt_store_mid 25 (.tmp 81) _ rfl cb 19 #[.bool f1.a.six, .int .u64 (f1.a.hi : Int), .int .u64 (f1.a.lo : Int)] rfl rfl (hB0.thereAt (o := 19) (n := 3) (by simp)) (by kernel_rfl) (by simp [Value.oneCell']) ?_
                      exact ⟨hR.into (Kept.setCells (S := fun i => i = cb) rfl _ _ (Kept.refl _ _)), hR.put 0 rfl rfl (show Blk (((u.setCell ⟨cb, 19, none⟩ (.bool f1.a.six)).setCell ⟨cb, 20, none⟩ (.int .u64 (f1.a.hi : Int))).setCell ⟨cb, 21, none⟩ (.int .u64 (f1.a.lo : Int))) cb 41 #[.int .i64 (k : Int), .int .i64 0, .int .i64 0, .int .i64 0, .int .i64 0, .bool false, .int .u64 0, .int .u64 0, .int .u16 0, .int .u8 0, .int .i64 0, .slice none 0 0, .int .i64 0, .int .i64 0, .int .u8 0, .slice LA1 ln1 lc1, .int .u32 0, .int .u32 0, .int .u32 0, .bool f1.a.six, .int .u64 (f1.a.hi : Int), .int .u64 (f1.a.lo : Int), .int .u16 0] from ((hB0.set_to rfl).set_to rfl).set_to rfl)⟩
                    intro v hv
                    obtain ⟨u, _, hu⟩ := hv
                    obtain - := hR.get 0 rfl hu
                    clear hu
                    intro K hK
                    go_big_quiet_op
                    go_big_quiet_on
                    repeat (first | (refine wpR_det hp2 rfl ((hR.rel _).trans rfl) rfl ?_; intro K hK; go_big_quiet_op; go_big_quiet_on) | (refine wpR_ptr hp2 rfl ((hR.rel _).trans rfl) rfl rfl ?_; intro K hK; go_big_quiet_op; go_big_quiet_on) | (refine wpR_skip pick rfl ?_; intro K hK; go_big_quiet_op; go_big_quiet_on))
                    refine wpR_turn pick rfl ((hR.rel _).trans rfl) ((hR.turns _).trans rfl) ((hR.adds _).trans rfl) ?_ ?_
                    · intro u hu hM
                      have hk := hR.since hu.1
                      have hks := hk.size
                      have hB0 := hR.get 0 rfl hM
                      have cZ := hB0.cell
                      have fZ := hB0.frozen
                      unfold relAt
                      go_simp
                      exact ⟨hR.into (Kept.setIn (S := fun i => i = cb) (b := cb) rfl (Kept.refl _ _)), hR.put 1 rfl rfl (hB0.set_to rfl)⟩
                    intro v hv
                    obtain ⟨u, _, hu⟩ := hv
                    obtain - := hR.get 1 rfl hu
                    clear hu
                    intro K hK
                    go_big_quiet_op
                    go_big_quiet_on
                    repeat (first | (refine wpR_det hp2 rfl ((hR.rel _).trans rfl) rfl ?_; intro K hK; go_big_quiet_op; go_big_quiet_on) | (refine wpR_ptr hp2 rfl ((hR.rel _).trans rfl) rfl rfl ?_; intro K hK; go_big_quiet_op; go_big_quiet_on) | (refine wpR_skip pick rfl ?_; intro K hK; go_big_quiet_op; go_big_quiet_on))
                    refine wpR_nil ?_
                    intro w9 hk2 hF hM
                    have HC9 := Lib.hid (show Blk w9 cb 41 #[.int .i64 (k : Int), .int .i64 0, .int .i64 0, .int .i64 0, .int .i64 0, .bool false, .int .u64 0, .int .u64 0, .int .u16 0, .int .u8 0, .int .i64 0, .slice none 0 0, .int .i64 0, .int .i64 0, .int .u8 0, .slice LA1 ln1 lc1, .int .u32 0, .int .u32 0, .int .u32 0, .bool f1.a.six, .int .u64 (f1.a.hi : Int), .int .u64 (f1.a.lo : Int), .int .u16 (f1.po : Int)] from hR.get 1 rfl hM)
                    have HK89 := Lib.hid hk2
                    clear hF hM hk2 hp1 hp2 hR sF cF lF
                    have HK79 := Lib.hid (HKA.out.trans HK89.out)
                    have HF9 := Lib.hid (HF7.out.kept HK79.out hfc)
                    have HR9a := Lib.hid (HR7.out.kept HK79.out HRC.out)
                    have HP9 := Lib.hid (HP7.out.kept HK79.out (fun e => HP7.out.ne_ HC7.out (by decide) e))
                    have HK9a := Lib.hid (show Kept (fun _ => False) w w9 from HK7.out.then HK79.out (fun i hi e => by have := HWC.out; omega))
                    have HLD9 := Lib.hid (HLD7.out.keep (fun g cs fr hg => HK79.out.block g (lt_of_heap hg) (fun e => by subst e; exact blk_not HC7.out hg (by decide))))
                    have HNU9 := Lib.hid (Row.kept HNU7.out HK79.out (fun g hg e => by subst e; exact Row.ne HNU7.out HC7.out (by decide) hg))
                    clear HF7 HR7 HP7 HK7 HLD7 HNU7 HC7 HC8 HKA HK89 HK79 HFC
                    go_wp2_with fail
                    go_loopw [13, 14] (fun n i wr => ∃ (j m : Nat) (sp : Sp), n = .int .i64 (m : Int) ∧ i = .int .i64 (j : Int) ∧ j ≤ pk.size ∧ m ≤ j ∧ sp.op = Osp.zero ∧ sp.load = f1.load ∧ Hid (Blk wr cb 41 #[.int .i64 sp.kind, .int .i64 0, .int .i64 0, .int .i64 0, .int .i64 0, .bool false, .int .u64 0, .int .u64 0, .int .u16 0, .int .u8 0, .int .i64 0, .slice none 0 0, .int .i64 sp.who, .int .i64 sp.time, .int .u8 (sp.flags : Int), .slice LA1 ln1 lc1, .int .u32 (sp.n : Int), .int .u32 (sp.x : Int), .int .u32 (sp.y : Int), .bool sp.src.six, .int .u64 (sp.src.hi : Int), .int .u64 (sp.src.lo : Int), .int .u16 (sp.port : Int)]) ∧ Hid (fillN (pk.data.toList.drop j) (f1.nums.drop m) sp = fillP k pk.data.toList f1) ∧ Hid (okN (pk.data.toList.drop j) (f1.nums.drop m)) ∧ Hid (Kept (fun i => i = cb) w9 wr)) (fun _ i _ => pk.size - (intOf i).toNat)
                    case atStart => exact ⟨0, 0, { Sp.zero with kind := k, load := f1.load, src := f1.a, port := f1.po }, rfl, rfl, by omega, by omega, rfl, rfl, HC9, Lib.hid rfl, HON, Lib.hid (Kept.refl _ _)⟩
                    case round =>
                      obtain ⟨j, m, sp, rfl, rfl, hj, hmj, hop, hld, HC, HFI, HOKN, HKC⟩ := hrel
                      have j0 : (0 : Int) ≤ (j : Int) := Int.natCast_nonneg _
                      have m0 : (0 : Int) ≤ (m : Int) := Int.natCast_nonneg _
                      have HPW := Lib.hid (HP9.out.kept HKC.out (fun e => HP9.out.ne_ HC9.out (by decide) e))
                      have HFW := Lib.hid (HF9.out.kept HKC.out hfc)
                      have HRWn := Lib.hid (HR9a.out.kept HKC.out HRC.out)
                      have HNW := Lib.hid (Row.kept HNU9.out HKC.out (fun g hg e => by subst e; exact Row.ne HNU9.out HC9.out (by decide) hg))
                      have HKZ := Lib.hid (show Kept (fun _ => False) w wr from HK9a.out.then HKC.out (fun i hi e => by have := HWC.out; omega))
                      have cPW : wr.cell? ⟨pb, k, none⟩ = some (.string pk) := (HPW.out.cell k).trans ((pts_at k hk1 (by omega)).trans (by rw [HPKE.out]))
                      have cF := HFW.out.cell
                      have cC := HC.out.cell
                      have fC := HC.out.frozen
                      by_cases hjl : j < pk.size
                      · have jI : (j : Int) < (pk.size : Int) := by omega
                        have hjl2 : j < pk.data.toList.length := by rw [← Lib.size_eq]; exact hjl
                        obtain ⟨ch, hch⟩ : ∃ ch, pk[j]'hjl = ch := ⟨_, rfl⟩
                        have HDR := Lib.hid (show pk.data.toList.drop j = ch :: pk.data.toList.drop (j + 1) by rw [List.drop_eq_getElem_cons hjl2]; congr 1)
                        have hcl := byte_le ch
                        have hcl0 : (0 : Int) ≤ (ch.toNat : Int) := Int.natCast_nonneg _
                        go_upto_region 29 with fail
                        try rw [hch]
                        clear hch
                        by_cases h97 : ch = 97
                        · skip
                          have q97 : ((ch.toNat : Int) == 97) = true := by rw [h97]; rfl
                          have HSK := Lib.hid (show ch = 97 ∨ ch = 80 ∨ ch = 84 from by rw [h97]; decide)
                          clear h97
                          go_wp2_with fail
                          go_roundw
                          case rel => exact ⟨j + 1, m, sp, rfl, by go_num, by omega, by omega, hop, hld, HC, Lib.hid (by rw [← HFI.out, HDR.out, fillN_skip HSK.out]), Lib.hid (by have h := HOKN.out; rw [HDR.out] at h; unfold okN at h; rw [if_pos HSK.out] at h; exact h), HKC⟩
                          case measure => simp [intOf]; omega
                        by_cases h80 : ch = 80
                        · skip
                          have q97 : ((ch.toNat : Int) == 97) = false := beq_eq_false_iff_ne.2 (fun e => h97 (UInt8.toNat_inj.1 (by have : ((97 : UInt8)).toNat = 97 := rfl; omega)))
                          have q80 : ((ch.toNat : Int) == 80) = true := by rw [h80]; rfl
                          have HSK := Lib.hid (show ch = 97 ∨ ch = 80 ∨ ch = 84 from by rw [h80]; decide)
                          clear h97 h80
                          go_wp2_with fail
                          go_roundw
                          case rel => exact ⟨j + 1, m, sp, rfl, by go_num, by omega, by omega, hop, hld, HC, Lib.hid (by rw [← HFI.out, HDR.out, fillN_skip HSK.out]), Lib.hid (by have h := HOKN.out; rw [HDR.out] at h; unfold okN at h; rw [if_pos HSK.out] at h; exact h), HKC⟩
                          case measure => simp [intOf]; omega
                        by_cases h84 : ch = 84
                        · skip
                          have q97 : ((ch.toNat : Int) == 97) = false := beq_eq_false_iff_ne.2 (fun e => h97 (UInt8.toNat_inj.1 (by have : ((97 : UInt8)).toNat = 97 := rfl; omega)))
                          have q80 : ((ch.toNat : Int) == 80) = false := beq_eq_false_iff_ne.2 (fun e => h80 (UInt8.toNat_inj.1 (by have : ((80 : UInt8)).toNat = 80 := rfl; omega)))
                          have q84 : ((ch.toNat : Int) == 84) = true := by rw [h84]; rfl
                          have HSK := Lib.hid (show ch = 97 ∨ ch = 80 ∨ ch = 84 from by rw [h84]; decide)
                          clear h97 h80 h84
                          go_wp2_with fail
                          go_roundw
                          case rel => exact ⟨j + 1, m, sp, rfl, by go_num, by omega, by omega, hop, hld, HC, Lib.hid (by rw [← HFI.out, HDR.out, fillN_skip HSK.out]), Lib.hid (by have h := HOKN.out; rw [HDR.out] at h; unfold okN at h; rw [if_pos HSK.out] at h; exact h), HKC⟩
                          case measure => simp [intOf]; omega
                        by_cases h87 : ch = 87
                        · skip
                          have hns : ¬ (ch = 97 ∨ ch = 80 ∨ ch = 84) := by rintro (e | e | e) <;> first | exact h97 e | exact h80 e | exact h84 e
                          have hokn := HOKN.out
                          rw [HDR.out] at hokn
                          unfold okN at hokn
                          rw [if_neg hns] at hokn
                          obtain ⟨v, ns, hvn⟩ : ∃ v ns, f1.nums.drop m = v :: ns := by
                            cases hd : f1.nums.drop m with
                            | nil => rw [hd] at hokn; exact hokn.elim
                            | cons v ns => exact ⟨v, ns, rfl⟩
                          rw [hvn] at hokn
                          have hml : m < f1.nums.length := by
                            rcases Nat.lt_or_ge m f1.nums.length with h | h
                            · exact h
                            · rw [List.drop_eq_nil_of_le h] at hvn; cases hvn
                          have hv1 : f1.nums[m] = v ∧ f1.nums.drop (m + 1) = ns := by
                            rw [List.drop_eq_getElem_cons hml] at hvn
                            injection hvn with e1 e2
                            exact ⟨e1, e2⟩
                          have hv2 : v ≤ 1073741824 := Nat.le_trans hokn.1 (limP_le ch)
                          have HFE := Lib.hid (show fill1 ch v sp = { sp with who := v } by rw [h87]; rfl)
                          have HF1 := Lib.hid (show fillN (pk.data.toList.drop (j + 1)) (f1.nums.drop (m + 1)) (fill1 ch v sp) = fillP k pk.data.toList f1 by rw [← HFI.out, HDR.out, hvn, fillN_num hns, hv1.2])
                          have HO1 := Lib.hid (show okN (pk.data.toList.drop (j + 1)) (f1.nums.drop (m + 1)) by rw [hv1.2]; exact hokn.2)
                          have v0 : (0 : Int) ≤ (v : Int) := Int.natCast_nonneg _
                          have v1 : (v : Int) ≤ 1073741824 := by omega
                          obtain ⟨ng, nq, hne, hng0, hng1, hncs⟩ := HNW.out.at (i := m) (by simp [ics]; exact hml)
                          injection hne with hn1 hn2 hn3
                          have cV : wr.cell? ⟨ng, m, none⟩ = some (.int .i64 (v : Int)) := by
                            rw [hncs m (by simp [ics]; exact hml)]
                            simp [ics, hv1.1]
                          have mI : (m : Int) < (nn1 : Int) := by rw [hn2]; simp [ics]; exact hml
                          have q97 : ((ch.toNat : Int) == 97) = false := beq_eq_false_iff_ne.2 (fun e => h97 (UInt8.toNat_inj.1 (by have : ((97 : UInt8)).toNat = 97 := rfl; omega)))
                          have q80 : ((ch.toNat : Int) == 80) = false := beq_eq_false_iff_ne.2 (fun e => h80 (UInt8.toNat_inj.1 (by have : ((80 : UInt8)).toNat = 80 := rfl; omega)))
                          have q84 : ((ch.toNat : Int) == 84) = false := beq_eq_false_iff_ne.2 (fun e => h84 (UInt8.toNat_inj.1 (by have : ((84 : UInt8)).toNat = 84 := rfl; omega)))
                          have q87 : ((ch.toNat : Int) == 87) = true := by rw [h87]; rfl
                          clear h97 h80 h84 h87 hns hokn hvn hv1 hncs hn2 hn3
                          subst hn1
                          go_upto_region 27 with fail
                          generalize hwX : World.setCell _ _ _ = w10
                          have HKX2 := Lib.hid (show Kept (fun i => i = cb) wr w10 by rw [← hwX]; exact Kept.setIn (S := fun i => i = cb) (b := cb) rfl (Kept.refl _ _))
                          have HC10 := Lib.hid (show Blk w10 cb 41 #[.int .i64 sp.kind, .int .i64 0, .int .i64 0, .int .i64 0, .int .i64 0, .bool false, .int .u64 0, .int .u64 0, .int .u16 0, .int .u8 0, .int .i64 0, .slice none 0 0, .int .i64 (v : Int), .int .i64 sp.time, .int .u8 (sp.flags : Int), .slice LA1 ln1 lc1, .int .u32 (sp.n : Int), .int .u32 (sp.x : Int), .int .u32 (sp.y : Int), .bool sp.src.six, .int .u64 (sp.src.hi : Int), .int .u64 (sp.src.lo : Int), .int .u16 (sp.port : Int)] by rw [← hwX]; exact HC.out.set_to rfl)
                          clear hwX cV
                          go_wp2_with fail
                          go_roundw
                          case rel => exact ⟨j + 1, m + 1, { sp with who := v }, by go_num, by go_num, by omega, by omega, hop, hld, HC10, Lib.hid (by rw [← HFE.out]; exact HF1.out), HO1, Lib.hid (HKC.out.trans HKX2.out)⟩
                          case measure => simp [intOf]; omega
                        by_cases h65 : ch = 65
                        · skip
                          have hns : ¬ (ch = 97 ∨ ch = 80 ∨ ch = 84) := by rintro (e | e | e) <;> first | exact h97 e | exact h80 e | exact h84 e
                          have hokn := HOKN.out
                          rw [HDR.out] at hokn
                          unfold okN at hokn
                          rw [if_neg hns] at hokn
                          obtain ⟨v, ns, hvn⟩ : ∃ v ns, f1.nums.drop m = v :: ns := by
                            cases hd : f1.nums.drop m with
                            | nil => rw [hd] at hokn; exact hokn.elim
                            | cons v ns => exact ⟨v, ns, rfl⟩
                          rw [hvn] at hokn
                          have hml : m < f1.nums.length := by
                            rcases Nat.lt_or_ge m f1.nums.length with h | h
                            · exact h
                            · rw [List.drop_eq_nil_of_le h] at hvn; cases hvn
                          have hv1 : f1.nums[m] = v ∧ f1.nums.drop (m + 1) = ns := by
                            rw [List.drop_eq_getElem_cons hml] at hvn
                            injection hvn with e1 e2
                            exact ⟨e1, e2⟩
                          have hv2 : v ≤ 1073741824 := Nat.le_trans hokn.1 (limP_le ch)
                          have HFE := Lib.hid (show fill1 ch v sp = { sp with time := v } by rw [h65]; rfl)
                          have HF1 := Lib.hid (show fillN (pk.data.toList.drop (j + 1)) (f1.nums.drop (m + 1)) (fill1 ch v sp) = fillP k pk.data.toList f1 by rw [← HFI.out, HDR.out, hvn, fillN_num hns, hv1.2])
                          have HO1 := Lib.hid (show okN (pk.data.toList.drop (j + 1)) (f1.nums.drop (m + 1)) by rw [hv1.2]; exact hokn.2)
                          have v0 : (0 : Int) ≤ (v : Int) := Int.natCast_nonneg _
                          have v1 : (v : Int) ≤ 1073741824 := by omega
                          obtain ⟨ng, nq, hne, hng0, hng1, hncs⟩ := HNW.out.at (i := m) (by simp [ics]; exact hml)
                          injection hne with hn1 hn2 hn3
                          have cV : wr.cell? ⟨ng, m, none⟩ = some (.int .i64 (v : Int)) := by
                            rw [hncs m (by simp [ics]; exact hml)]
                            simp [ics, hv1.1]
                          have mI : (m : Int) < (nn1 : Int) := by rw [hn2]; simp [ics]; exact hml
                          have q97 : ((ch.toNat : Int) == 97) = false := beq_eq_false_iff_ne.2 (fun e => h97 (UInt8.toNat_inj.1 (by have : ((97 : UInt8)).toNat = 97 := rfl; omega)))
                          have q80 : ((ch.toNat : Int) == 80) = false := beq_eq_false_iff_ne.2 (fun e => h80 (UInt8.toNat_inj.1 (by have : ((80 : UInt8)).toNat = 80 := rfl; omega)))
                          have q84 : ((ch.toNat : Int) == 84) = false := beq_eq_false_iff_ne.2 (fun e => h84 (UInt8.toNat_inj.1 (by have : ((84 : UInt8)).toNat = 84 := rfl; omega)))
                          have q87 : ((ch.toNat : Int) == 87) = false := beq_eq_false_iff_ne.2 (fun e => h87 (UInt8.toNat_inj.1 (by have : ((87 : UInt8)).toNat = 87 := rfl; omega)))
                          have q65 : ((ch.toNat : Int) == 65) = true := by rw [h65]; rfl
                          clear h97 h80 h84 h87 h65 hns hokn hvn hv1 hncs hn2 hn3
                          subst hn1
                          go_upto_region 27 with fail
                          generalize hwX : World.setCell _ _ _ = w10
                          have HKX2 := Lib.hid (show Kept (fun i => i = cb) wr w10 by rw [← hwX]; exact Kept.setIn (S := fun i => i = cb) (b := cb) rfl (Kept.refl _ _))
                          have HC10 := Lib.hid (show Blk w10 cb 41 #[.int .i64 sp.kind, .int .i64 0, .int .i64 0, .int .i64 0, .int .i64 0, .bool false, .int .u64 0, .int .u64 0, .int .u16 0, .int .u8 0, .int .i64 0, .slice none 0 0, .int .i64 sp.who, .int .i64 (v : Int), .int .u8 (sp.flags : Int), .slice LA1 ln1 lc1, .int .u32 (sp.n : Int), .int .u32 (sp.x : Int), .int .u32 (sp.y : Int), .bool sp.src.six, .int .u64 (sp.src.hi : Int), .int .u64 (sp.src.lo : Int), .int .u16 (sp.port : Int)] by rw [← hwX]; exact HC.out.set_to rfl)
                          clear hwX cV
                          go_wp2_with fail
                          go_roundw
                          case rel => exact ⟨j + 1, m + 1, { sp with time := v }, by go_num, by go_num, by omega, by omega, hop, hld, HC10, Lib.hid (by rw [← HFE.out]; exact HF1.out), HO1, Lib.hid (HKC.out.trans HKX2.out)⟩
                          case measure => simp [intOf]; omega
                        by_cases h70 : ch = 70
                        · skip
                          have hns : ¬ (ch = 97 ∨ ch = 80 ∨ ch = 84) := by rintro (e | e | e) <;> first | exact h97 e | exact h80 e | exact h84 e
                          have hokn := HOKN.out
                          rw [HDR.out] at hokn
                          unfold okN at hokn
                          rw [if_neg hns] at hokn
                          obtain ⟨v, ns, hvn⟩ : ∃ v ns, f1.nums.drop m = v :: ns := by
                            cases hd : f1.nums.drop m with
                            | nil => rw [hd] at hokn; exact hokn.elim
                            | cons v ns => exact ⟨v, ns, rfl⟩
                          rw [hvn] at hokn
                          have hml : m < f1.nums.length := by
                            rcases Nat.lt_or_ge m f1.nums.length with h | h
                            · exact h
                            · rw [List.drop_eq_nil_of_le h] at hvn; cases hvn
                          have hv1 : f1.nums[m] = v ∧ f1.nums.drop (m + 1) = ns := by
                            rw [List.drop_eq_getElem_cons hml] at hvn
                            injection hvn with e1 e2
                            exact ⟨e1, e2⟩
                          have hv2 : v ≤ 255 := by have := hokn.1; rw [h70] at this; exact this
                          have HFE := Lib.hid (show fill1 ch v sp = { sp with flags := v } by rw [h70]; rfl)
                          have HF1 := Lib.hid (show fillN (pk.data.toList.drop (j + 1)) (f1.nums.drop (m + 1)) (fill1 ch v sp) = fillP k pk.data.toList f1 by rw [← HFI.out, HDR.out, hvn, fillN_num hns, hv1.2])
                          have HO1 := Lib.hid (show okN (pk.data.toList.drop (j + 1)) (f1.nums.drop (m + 1)) by rw [hv1.2]; exact hokn.2)
                          have v0 : (0 : Int) ≤ (v : Int) := Int.natCast_nonneg _
                          have v1 : (v : Int) ≤ 255 := by omega
                          obtain ⟨ng, nq, hne, hng0, hng1, hncs⟩ := HNW.out.at (i := m) (by simp [ics]; exact hml)
                          injection hne with hn1 hn2 hn3
                          have cV : wr.cell? ⟨ng, m, none⟩ = some (.int .i64 (v : Int)) := by
                            rw [hncs m (by simp [ics]; exact hml)]
                            simp [ics, hv1.1]
                          have mI : (m : Int) < (nn1 : Int) := by rw [hn2]; simp [ics]; exact hml
                          have q97 : ((ch.toNat : Int) == 97) = false := beq_eq_false_iff_ne.2 (fun e => h97 (UInt8.toNat_inj.1 (by have : ((97 : UInt8)).toNat = 97 := rfl; omega)))
                          have q80 : ((ch.toNat : Int) == 80) = false := beq_eq_false_iff_ne.2 (fun e => h80 (UInt8.toNat_inj.1 (by have : ((80 : UInt8)).toNat = 80 := rfl; omega)))
                          have q84 : ((ch.toNat : Int) == 84) = false := beq_eq_false_iff_ne.2 (fun e => h84 (UInt8.toNat_inj.1 (by have : ((84 : UInt8)).toNat = 84 := rfl; omega)))
                          have q87 : ((ch.toNat : Int) == 87) = false := beq_eq_false_iff_ne.2 (fun e => h87 (UInt8.toNat_inj.1 (by have : ((87 : UInt8)).toNat = 87 := rfl; omega)))
                          have q65 : ((ch.toNat : Int) == 65) = false := beq_eq_false_iff_ne.2 (fun e => h65 (UInt8.toNat_inj.1 (by have : ((65 : UInt8)).toNat = 65 := rfl; omega)))
                          have q70 : ((ch.toNat : Int) == 70) = true := by rw [h70]; rfl
                          clear h97 h80 h84 h87 h65 h70 hns hokn hvn hv1 hncs hn2 hn3
                          subst hn1
                          go_upto_region 27 with fail
                          generalize hwX : World.setCell _ _ _ = w10
                          have HKX2 := Lib.hid (show Kept (fun i => i = cb) wr w10 by rw [← hwX]; exact Kept.setIn (S := fun i => i = cb) (b := cb) rfl (Kept.refl _ _))
                          have HC10 := Lib.hid (show Blk w10 cb 41 #[.int .i64 sp.kind, .int .i64 0, .int .i64 0, .int .i64 0, .int .i64 0, .bool false, .int .u64 0, .int .u64 0, .int .u16 0, .int .u8 0, .int .i64 0, .slice none 0 0, .int .i64 sp.who, .int .i64 sp.time, .int .u8 (v : Int), .slice LA1 ln1 lc1, .int .u32 (sp.n : Int), .int .u32 (sp.x : Int), .int .u32 (sp.y : Int), .bool sp.src.six, .int .u64 (sp.src.hi : Int), .int .u64 (sp.src.lo : Int), .int .u16 (sp.port : Int)] by rw [← hwX]; exact HC.out.set_to rfl)
                          clear hwX cV
                          go_wp2_with fail
                          go_roundw
                          case rel => exact ⟨j + 1, m + 1, { sp with flags := v }, by go_num, by go_num, by omega, by omega, hop, hld, HC10, Lib.hid (by rw [← HFE.out]; exact HF1.out), HO1, Lib.hid (HKC.out.trans HKX2.out)⟩
                          case measure => simp [intOf]; omega
                        by_cases h49 : ch = 49
                        · skip
                          have hns : ¬ (ch = 97 ∨ ch = 80 ∨ ch = 84) := by rintro (e | e | e) <;> first | exact h97 e | exact h80 e | exact h84 e
                          have hokn := HOKN.out
                          rw [HDR.out] at hokn
                          unfold okN at hokn
                          rw [if_neg hns] at hokn
                          obtain ⟨v, ns, hvn⟩ : ∃ v ns, f1.nums.drop m = v :: ns := by
                            cases hd : f1.nums.drop m with
                            | nil => rw [hd] at hokn; exact hokn.elim
                            | cons v ns => exact ⟨v, ns, rfl⟩
                          rw [hvn] at hokn
                          have hml : m < f1.nums.length := by
                            rcases Nat.lt_or_ge m f1.nums.length with h | h
                            · exact h
                            · rw [List.drop_eq_nil_of_le h] at hvn; cases hvn
                          have hv1 : f1.nums[m] = v ∧ f1.nums.drop (m + 1) = ns := by
                            rw [List.drop_eq_getElem_cons hml] at hvn
                            injection hvn with e1 e2
                            exact ⟨e1, e2⟩
                          have hv2 : v ≤ 1 := by have := hokn.1; rw [h49] at this; exact this
                          have HFE := Lib.hid (show fill1 ch v sp = { sp with flags := v } by rw [h49]; rfl)
                          have HF1 := Lib.hid (show fillN (pk.data.toList.drop (j + 1)) (f1.nums.drop (m + 1)) (fill1 ch v sp) = fillP k pk.data.toList f1 by rw [← HFI.out, HDR.out, hvn, fillN_num hns, hv1.2])
                          have HO1 := Lib.hid (show okN (pk.data.toList.drop (j + 1)) (f1.nums.drop (m + 1)) by rw [hv1.2]; exact hokn.2)
                          have v0 : (0 : Int) ≤ (v : Int) := Int.natCast_nonneg _
                          have v1 : (v : Int) ≤ 1 := by omega
                          obtain ⟨ng, nq, hne, hng0, hng1, hncs⟩ := HNW.out.at (i := m) (by simp [ics]; exact hml)
                          injection hne with hn1 hn2 hn3
                          have cV : wr.cell? ⟨ng, m, none⟩ = some (.int .i64 (v : Int)) := by
                            rw [hncs m (by simp [ics]; exact hml)]
                            simp [ics, hv1.1]
                          have mI : (m : Int) < (nn1 : Int) := by rw [hn2]; simp [ics]; exact hml
                          have q97 : ((ch.toNat : Int) == 97) = false := beq_eq_false_iff_ne.2 (fun e => h97 (UInt8.toNat_inj.1 (by have : ((97 : UInt8)).toNat = 97 := rfl; omega)))
                          have q80 : ((ch.toNat : Int) == 80) = false := beq_eq_false_iff_ne.2 (fun e => h80 (UInt8.toNat_inj.1 (by have : ((80 : UInt8)).toNat = 80 := rfl; omega)))
                          have q84 : ((ch.toNat : Int) == 84) = false := beq_eq_false_iff_ne.2 (fun e => h84 (UInt8.toNat_inj.1 (by have : ((84 : UInt8)).toNat = 84 := rfl; omega)))
                          have q87 : ((ch.toNat : Int) == 87) = false := beq_eq_false_iff_ne.2 (fun e => h87 (UInt8.toNat_inj.1 (by have : ((87 : UInt8)).toNat = 87 := rfl; omega)))
                          have q65 : ((ch.toNat : Int) == 65) = false := beq_eq_false_iff_ne.2 (fun e => h65 (UInt8.toNat_inj.1 (by have : ((65 : UInt8)).toNat = 65 := rfl; omega)))
                          have q70 : ((ch.toNat : Int) == 70) = false := beq_eq_false_iff_ne.2 (fun e => h70 (UInt8.toNat_inj.1 (by have : ((70 : UInt8)).toNat = 70 := rfl; omega)))
                          have q49 : ((ch.toNat : Int) == 49) = true := by rw [h49]; rfl
                          clear h97 h80 h84 h87 h65 h70 h49 hns hokn hvn hv1 hncs hn2 hn3
                          subst hn1
                          go_upto_region 27 with fail
                          generalize hwX : World.setCell _ _ _ = w10
                          have HKX2 := Lib.hid (show Kept (fun i => i = cb) wr w10 by rw [← hwX]; exact Kept.setIn (S := fun i => i = cb) (b := cb) rfl (Kept.refl _ _))
                          have HC10 := Lib.hid (show Blk w10 cb 41 #[.int .i64 sp.kind, .int .i64 0, .int .i64 0, .int .i64 0, .int .i64 0, .bool false, .int .u64 0, .int .u64 0, .int .u16 0, .int .u8 0, .int .i64 0, .slice none 0 0, .int .i64 sp.who, .int .i64 sp.time, .int .u8 (v : Int), .slice LA1 ln1 lc1, .int .u32 (sp.n : Int), .int .u32 (sp.x : Int), .int .u32 (sp.y : Int), .bool sp.src.six, .int .u64 (sp.src.hi : Int), .int .u64 (sp.src.lo : Int), .int .u16 (sp.port : Int)] by rw [← hwX]; exact HC.out.set_to rfl)
                          clear hwX cV
                          go_wp2_with fail
                          go_roundw
                          case rel => exact ⟨j + 1, m + 1, { sp with flags := v }, by go_num, by go_num, by omega, by omega, hop, hld, HC10, Lib.hid (by rw [← HFE.out]; exact HF1.out), HO1, Lib.hid (HKC.out.trans HKX2.out)⟩
                          case measure => simp [intOf]; omega
                        by_cases h88 : ch = 88
                        · skip
                          have hns : ¬ (ch = 97 ∨ ch = 80 ∨ ch = 84) := by rintro (e | e | e) <;> first | exact h97 e | exact h80 e | exact h84 e
                          have hokn := HOKN.out
                          rw [HDR.out] at hokn
                          unfold okN at hokn
                          rw [if_neg hns] at hokn
                          obtain ⟨v, ns, hvn⟩ : ∃ v ns, f1.nums.drop m = v :: ns := by
                            cases hd : f1.nums.drop m with
                            | nil => rw [hd] at hokn; exact hokn.elim
                            | cons v ns => exact ⟨v, ns, rfl⟩
                          rw [hvn] at hokn
                          have hml : m < f1.nums.length := by
                            rcases Nat.lt_or_ge m f1.nums.length with h | h
                            · exact h
                            · rw [List.drop_eq_nil_of_le h] at hvn; cases hvn
                          have hv1 : f1.nums[m] = v ∧ f1.nums.drop (m + 1) = ns := by
                            rw [List.drop_eq_getElem_cons hml] at hvn
                            injection hvn with e1 e2
                            exact ⟨e1, e2⟩
                          have hv2 : v ≤ 1073741824 := Nat.le_trans hokn.1 (limP_le ch)
                          have HFE := Lib.hid (show fill1 ch v sp = { sp with x := v } by rw [h88]; rfl)
                          have HF1 := Lib.hid (show fillN (pk.data.toList.drop (j + 1)) (f1.nums.drop (m + 1)) (fill1 ch v sp) = fillP k pk.data.toList f1 by rw [← HFI.out, HDR.out, hvn, fillN_num hns, hv1.2])
                          have HO1 := Lib.hid (show okN (pk.data.toList.drop (j + 1)) (f1.nums.drop (m + 1)) by rw [hv1.2]; exact hokn.2)
                          have v0 : (0 : Int) ≤ (v : Int) := Int.natCast_nonneg _
                          have v1 : (v : Int) ≤ 1073741824 := by omega
                          obtain ⟨ng, nq, hne, hng0, hng1, hncs⟩ := HNW.out.at (i := m) (by simp [ics]; exact hml)
                          injection hne with hn1 hn2 hn3
                          have cV : wr.cell? ⟨ng, m, none⟩ = some (.int .i64 (v : Int)) := by
                            rw [hncs m (by simp [ics]; exact hml)]
                            simp [ics, hv1.1]
                          have mI : (m : Int) < (nn1 : Int) := by rw [hn2]; simp [ics]; exact hml
                          have q97 : ((ch.toNat : Int) == 97) = false := beq_eq_false_iff_ne.2 (fun e => h97 (UInt8.toNat_inj.1 (by have : ((97 : UInt8)).toNat = 97 := rfl; omega)))
                          have q80 : ((ch.toNat : Int) == 80) = false := beq_eq_false_iff_ne.2 (fun e => h80 (UInt8.toNat_inj.1 (by have : ((80 : UInt8)).toNat = 80 := rfl; omega)))
                          have q84 : ((ch.toNat : Int) == 84) = false := beq_eq_false_iff_ne.2 (fun e => h84 (UInt8.toNat_inj.1 (by have : ((84 : UInt8)).toNat = 84 := rfl; omega)))
                          have q87 : ((ch.toNat : Int) == 87) = false := beq_eq_false_iff_ne.2 (fun e => h87 (UInt8.toNat_inj.1 (by have : ((87 : UInt8)).toNat = 87 := rfl; omega)))
                          have q65 : ((ch.toNat : Int) == 65) = false := beq_eq_false_iff_ne.2 (fun e => h65 (UInt8.toNat_inj.1 (by have : ((65 : UInt8)).toNat = 65 := rfl; omega)))
                          have q70 : ((ch.toNat : Int) == 70) = false := beq_eq_false_iff_ne.2 (fun e => h70 (UInt8.toNat_inj.1 (by have : ((70 : UInt8)).toNat = 70 := rfl; omega)))
                          have q49 : ((ch.toNat : Int) == 49) = false := beq_eq_false_iff_ne.2 (fun e => h49 (UInt8.toNat_inj.1 (by have : ((49 : UInt8)).toNat = 49 := rfl; omega)))
                          have q88 : ((ch.toNat : Int) == 88) = true := by rw [h88]; rfl
                          clear h97 h80 h84 h87 h65 h70 h49 h88 hns hokn hvn hv1 hncs hn2 hn3
                          subst hn1
                          go_upto_region 27 with fail
                          generalize hwX : World.setCell _ _ _ = w10
                          have HKX2 := Lib.hid (show Kept (fun i => i = cb) wr w10 by rw [← hwX]; exact Kept.setIn (S := fun i => i = cb) (b := cb) rfl (Kept.refl _ _))
                          have HC10 := Lib.hid (show Blk w10 cb 41 #[.int .i64 sp.kind, .int .i64 0, .int .i64 0, .int .i64 0, .int .i64 0, .bool false, .int .u64 0, .int .u64 0, .int .u16 0, .int .u8 0, .int .i64 0, .slice none 0 0, .int .i64 sp.who, .int .i64 sp.time, .int .u8 (sp.flags : Int), .slice LA1 ln1 lc1, .int .u32 (sp.n : Int), .int .u32 (v : Int), .int .u32 (sp.y : Int), .bool sp.src.six, .int .u64 (sp.src.hi : Int), .int .u64 (sp.src.lo : Int), .int .u16 (sp.port : Int)] by rw [← hwX]; exact HC.out.set_to rfl)
                          clear hwX cV
                          go_wp2_with fail
                          go_roundw
                          case rel => exact ⟨j + 1, m + 1, { sp with x := v }, by go_num, by go_num, by omega, by omega, hop, hld, HC10, Lib.hid (by rw [← HFE.out]; exact HF1.out), HO1, Lib.hid (HKC.out.trans HKX2.out)⟩
                          case measure => simp [intOf]; omega
                        by_cases h89 : ch = 89
                        · skip
                          have hns : ¬ (ch = 97 ∨ ch = 80 ∨ ch = 84) := by rintro (e | e | e) <;> first | exact h97 e | exact h80 e | exact h84 e
                          have hokn := HOKN.out
                          rw [HDR.out] at hokn
                          unfold okN at hokn
                          rw [if_neg hns] at hokn
                          obtain ⟨v, ns, hvn⟩ : ∃ v ns, f1.nums.drop m = v :: ns := by
                            cases hd : f1.nums.drop m with
                            | nil => rw [hd] at hokn; exact hokn.elim
                            | cons v ns => exact ⟨v, ns, rfl⟩
                          rw [hvn] at hokn
                          have hml : m < f1.nums.length := by
                            rcases Nat.lt_or_ge m f1.nums.length with h | h
                            · exact h
                            · rw [List.drop_eq_nil_of_le h] at hvn; cases hvn
                          have hv1 : f1.nums[m] = v ∧ f1.nums.drop (m + 1) = ns := by
                            rw [List.drop_eq_getElem_cons hml] at hvn
                            injection hvn with e1 e2
                            exact ⟨e1, e2⟩
                          have hv2 : v ≤ 1073741824 := Nat.le_trans hokn.1 (limP_le ch)
                          have HFE := Lib.hid (show fill1 ch v sp = { sp with y := v } by rw [h89]; rfl)
                          have HF1 := Lib.hid (show fillN (pk.data.toList.drop (j + 1)) (f1.nums.drop (m + 1)) (fill1 ch v sp) = fillP k pk.data.toList f1 by rw [← HFI.out, HDR.out, hvn, fillN_num hns, hv1.2])
                          have HO1 := Lib.hid (show okN (pk.data.toList.drop (j + 1)) (f1.nums.drop (m + 1)) by rw [hv1.2]; exact hokn.2)
                          have v0 : (0 : Int) ≤ (v : Int) := Int.natCast_nonneg _
                          have v1 : (v : Int) ≤ 1073741824 := by omega
                          obtain ⟨ng, nq, hne, hng0, hng1, hncs⟩ := HNW.out.at (i := m) (by simp [ics]; exact hml)
                          injection hne with hn1 hn2 hn3
                          have cV : wr.cell? ⟨ng, m, none⟩ = some (.int .i64 (v : Int)) := by
                            rw [hncs m (by simp [ics]; exact hml)]
                            simp [ics, hv1.1]
                          have mI : (m : Int) < (nn1 : Int) := by rw [hn2]; simp [ics]; exact hml
                          have q97 : ((ch.toNat : Int) == 97) = false := beq_eq_false_iff_ne.2 (fun e => h97 (UInt8.toNat_inj.1 (by have : ((97 : UInt8)).toNat = 97 := rfl; omega)))
                          have q80 : ((ch.toNat : Int) == 80) = false := beq_eq_false_iff_ne.2 (fun e => h80 (UInt8.toNat_inj.1 (by have : ((80 : UInt8)).toNat = 80 := rfl; omega)))
                          have q84 : ((ch.toNat : Int) == 84) = false := beq_eq_false_iff_ne.2 (fun e => h84 (UInt8.toNat_inj.1 (by have : ((84 : UInt8)).toNat = 84 := rfl; omega)))
                          have q87 : ((ch.toNat : Int) == 87) = false := beq_eq_false_iff_ne.2 (fun e => h87 (UInt8.toNat_inj.1 (by have : ((87 : UInt8)).toNat = 87 := rfl; omega)))
                          have q65 : ((ch.toNat : Int) == 65) = false := beq_eq_false_iff_ne.2 (fun e => h65 (UInt8.toNat_inj.1 (by have : ((65 : UInt8)).toNat = 65 := rfl; omega)))
                          have q70 : ((ch.toNat : Int) == 70) = false := beq_eq_false_iff_ne.2 (fun e => h70 (UInt8.toNat_inj.1 (by have : ((70 : UInt8)).toNat = 70 := rfl; omega)))
                          have q49 : ((ch.toNat : Int) == 49) = false := beq_eq_false_iff_ne.2 (fun e => h49 (UInt8.toNat_inj.1 (by have : ((49 : UInt8)).toNat = 49 := rfl; omega)))
                          have q88 : ((ch.toNat : Int) == 88) = false := beq_eq_false_iff_ne.2 (fun e => h88 (UInt8.toNat_inj.1 (by have : ((88 : UInt8)).toNat = 88 := rfl; omega)))
                          have q89 : ((ch.toNat : Int) == 89) = true := by rw [h89]; rfl
                          clear h97 h80 h84 h87 h65 h70 h49 h88 h89 hns hokn hvn hv1 hncs hn2 hn3
                          subst hn1
                          go_upto_region 27 with fail
                          generalize hwX : World.setCell _ _ _ = w10
                          have HKX2 := Lib.hid (show Kept (fun i => i = cb) wr w10 by rw [← hwX]; exact Kept.setIn (S := fun i => i = cb) (b := cb) rfl (Kept.refl _ _))
                          have HC10 := Lib.hid (show Blk w10 cb 41 #[.int .i64 sp.kind, .int .i64 0, .int .i64 0, .int .i64 0, .int .i64 0, .bool false, .int .u64 0, .int .u64 0, .int .u16 0, .int .u8 0, .int .i64 0, .slice none 0 0, .int .i64 sp.who, .int .i64 sp.time, .int .u8 (sp.flags : Int), .slice LA1 ln1 lc1, .int .u32 (sp.n : Int), .int .u32 (sp.x : Int), .int .u32 (v : Int), .bool sp.src.six, .int .u64 (sp.src.hi : Int), .int .u64 (sp.src.lo : Int), .int .u16 (sp.port : Int)] by rw [← hwX]; exact HC.out.set_to rfl)
                          clear hwX cV
                          go_wp2_with fail
                          go_roundw
                          case rel => exact ⟨j + 1, m + 1, { sp with y := v }, by go_num, by go_num, by omega, by omega, hop, hld, HC10, Lib.hid (by rw [← HFE.out]; exact HF1.out), HO1, Lib.hid (HKC.out.trans HKX2.out)⟩
                          case measure => simp [intOf]; omega
                        have hns : ¬ (ch = 97 ∨ ch = 80 ∨ ch = 84) := by rintro (e | e | e) <;> first | exact h97 e | exact h80 e | exact h84 e
                        have hokn := HOKN.out
                        rw [HDR.out] at hokn
                        unfold okN at hokn
                        rw [if_neg hns] at hokn
                        obtain ⟨v, ns, hvn⟩ : ∃ v ns, f1.nums.drop m = v :: ns := by
                          cases hd : f1.nums.drop m with
                          | nil => rw [hd] at hokn; exact hokn.elim
                          | cons v ns => exact ⟨v, ns, rfl⟩
                        rw [hvn] at hokn
                        have hml : m < f1.nums.length := by
                          rcases Nat.lt_or_ge m f1.nums.length with h | h
                          · exact h
                          · rw [List.drop_eq_nil_of_le h] at hvn; cases hvn
                        have hv1 : f1.nums[m] = v ∧ f1.nums.drop (m + 1) = ns := by
                          rw [List.drop_eq_getElem_cons hml] at hvn
                          injection hvn with e1 e2
                          exact ⟨e1, e2⟩
                        have hv2 : v ≤ 1073741824 := Nat.le_trans hokn.1 (limP_le ch)
                        have HFE := Lib.hid (show fill1 ch v sp = { sp with n := v } by unfold fill1; rw [if_neg h87, if_neg h65, if_neg (by rintro (e | e); exact h70 e; exact h49 e), if_neg h88, if_neg h89])
                        have HF1 := Lib.hid (show fillN (pk.data.toList.drop (j + 1)) (f1.nums.drop (m + 1)) (fill1 ch v sp) = fillP k pk.data.toList f1 by rw [← HFI.out, HDR.out, hvn, fillN_num hns, hv1.2])
                        have HO1 := Lib.hid (show okN (pk.data.toList.drop (j + 1)) (f1.nums.drop (m + 1)) by rw [hv1.2]; exact hokn.2)
                        have v0 : (0 : Int) ≤ (v : Int) := Int.natCast_nonneg _
                        have v1 : (v : Int) ≤ 1073741824 := by omega
                        obtain ⟨ng, nq, hne, hng0, hng1, hncs⟩ := HNW.out.at (i := m) (by simp [ics]; exact hml)
                        injection hne with hn1 hn2 hn3
                        have cV : wr.cell? ⟨ng, m, none⟩ = some (.int .i64 (v : Int)) := by
                          rw [hncs m (by simp [ics]; exact hml)]
                          simp [ics, hv1.1]
                        have mI : (m : Int) < (nn1 : Int) := by rw [hn2]; simp [ics]; exact hml
                        have q97 : ((ch.toNat : Int) == 97) = false := beq_eq_false_iff_ne.2 (fun e => h97 (UInt8.toNat_inj.1 (by have : ((97 : UInt8)).toNat = 97 := rfl; omega)))
                        have q80 : ((ch.toNat : Int) == 80) = false := beq_eq_false_iff_ne.2 (fun e => h80 (UInt8.toNat_inj.1 (by have : ((80 : UInt8)).toNat = 80 := rfl; omega)))
                        have q84 : ((ch.toNat : Int) == 84) = false := beq_eq_false_iff_ne.2 (fun e => h84 (UInt8.toNat_inj.1 (by have : ((84 : UInt8)).toNat = 84 := rfl; omega)))
                        have q87 : ((ch.toNat : Int) == 87) = false := beq_eq_false_iff_ne.2 (fun e => h87 (UInt8.toNat_inj.1 (by have : ((87 : UInt8)).toNat = 87 := rfl; omega)))
                        have q65 : ((ch.toNat : Int) == 65) = false := beq_eq_false_iff_ne.2 (fun e => h65 (UInt8.toNat_inj.1 (by have : ((65 : UInt8)).toNat = 65 := rfl; omega)))
                        have q70 : ((ch.toNat : Int) == 70) = false := beq_eq_false_iff_ne.2 (fun e => h70 (UInt8.toNat_inj.1 (by have : ((70 : UInt8)).toNat = 70 := rfl; omega)))
                        have q49 : ((ch.toNat : Int) == 49) = false := beq_eq_false_iff_ne.2 (fun e => h49 (UInt8.toNat_inj.1 (by have : ((49 : UInt8)).toNat = 49 := rfl; omega)))
                        have q88 : ((ch.toNat : Int) == 88) = false := beq_eq_false_iff_ne.2 (fun e => h88 (UInt8.toNat_inj.1 (by have : ((88 : UInt8)).toNat = 88 := rfl; omega)))
                        have q89 : ((ch.toNat : Int) == 89) = false := beq_eq_false_iff_ne.2 (fun e => h89 (UInt8.toNat_inj.1 (by have : ((89 : UInt8)).toNat = 89 := rfl; omega)))
                        clear h97 h80 h84 h87 h65 h70 h49 h88 h89 hns hokn hvn hv1 hncs hn2 hn3
                        subst hn1
                        go_upto_region 27 with fail
                        generalize hwX : World.setCell _ _ _ = w10
                        have HKX2 := Lib.hid (show Kept (fun i => i = cb) wr w10 by rw [← hwX]; exact Kept.setIn (S := fun i => i = cb) (b := cb) rfl (Kept.refl _ _))
                        have HC10 := Lib.hid (show Blk w10 cb 41 #[.int .i64 sp.kind, .int .i64 0, .int .i64 0, .int .i64 0, .int .i64 0, .bool false, .int .u64 0, .int .u64 0, .int .u16 0, .int .u8 0, .int .i64 0, .slice none 0 0, .int .i64 sp.who, .int .i64 sp.time, .int .u8 (sp.flags : Int), .slice LA1 ln1 lc1, .int .u32 (v : Int), .int .u32 (sp.x : Int), .int .u32 (sp.y : Int), .bool sp.src.six, .int .u64 (sp.src.hi : Int), .int .u64 (sp.src.lo : Int), .int .u16 (sp.port : Int)] by rw [← hwX]; exact HC.out.set_to rfl)
                        clear hwX cV
                        go_wp2_with fail
                        go_roundw
                        case rel => exact ⟨j + 1, m + 1, { sp with n := v }, by go_num, by go_num, by omega, by omega, hop, hld, HC10, Lib.hid (by rw [← HFE.out]; exact HF1.out), HO1, Lib.hid (HKC.out.trans HKX2.out)⟩
                        case measure => simp [intOf]; omega
                      · obtain rfl : j = pk.size := by omega
                        have jI : ¬ ((pk.size : Int) < (pk.size : Int)) := by omega
                        have HFF := Lib.hid (show fillP k pk.data.toList f1 = sp by
                          rw [← HFI.out, List.drop_eq_nil_of_le (by rw [← Lib.size_eq]; omega)]
                          unfold fillN
                          rfl)
                        have HRz := HRWn
                        have HKz := HKZ
                        go_wp2_with (first | (show wpList _ _ _ ((⟨_, .load 41 (.tmp 12), _, _, _, none⟩ : Oper) :: _) _ _; refine wpList_load_mid rfl 41 (.tmp 12) rfl cb 0 rfl [.int .i64 sp.kind, .int .i64 0, .int .i64 0, .int .i64 0, .int .i64 0, .bool false, .int .u64 0, .int .u64 0, .int .u16 0, .int .u8 0, .int .i64 0, .slice none 0 0, .int .i64 sp.who, .int .i64 sp.time, .int .u8 (sp.flags : Int), .slice LA1 ln1 lc1, .int .u32 (sp.n : Int), .int .u32 (sp.x : Int), .int .u32 (sp.y : Int), .bool sp.src.six, .int .u64 (sp.src.hi : Int), .int .u64 (sp.src.lo : Int), .int .u16 (sp.port : Int)] _ HC.out.range Tryz.underlying41 rfl (by kernel_rfl) ?_) | (show wpList _ _ _ ((⟨none, .store 41 (.tmp 2) _, _, _, _, none⟩ : Oper) :: _) _ _; refine wpList_store_mid rfl 41 (.tmp 2) _ rfl rb 0 #[.int .i64 sp.kind, .int .i64 0, .int .i64 0, .int .i64 0, .int .i64 0, .bool false, .int .u64 0, .int .u64 0, .int .u16 0, .int .u8 0, .int .i64 0, .slice none 0 0, .int .i64 sp.who, .int .i64 sp.time, .int .u8 (sp.flags : Int), .slice LA1 ln1 lc1, .int .u32 (sp.n : Int), .int .u32 (sp.x : Int), .int .u32 (sp.y : Int), .bool sp.src.six, .int .u64 (sp.src.hi : Int), .int .u64 (sp.src.lo : Int), .int .u16 (sp.port : Int)] rfl rfl (HRz.out.there rfl) (by kernel_rfl) (by simp [Value.oneCell']) ?_))
                        have HLDZ := Lib.hid (HLD9.out.keep (fun g cs fr hg => HKC.out.block g (lt_of_heap hg) (fun e => by subst e; exact blk_not HC9.out hg (by decide))))
                        generalize hw9 : (World.setCells _ _ _ _) = w9
                        have HK9 := Lib.hid (show Kept (fun i => i = rb) wr w9 by rw [← hw9]; exact Kept.setCells (S := fun i => i = rb) rfl _ _ (Kept.refl _ _))
                        have HR9 := Lib.hid (show Blk w9 rb 41 #[.int .i64 sp.kind, .int .i64 0, .int .i64 0, .int .i64 0, .int .i64 0, .bool false, .int .u64 0, .int .u64 0, .int .u16 0, .int .u8 0, .int .i64 0, .slice none 0 0, .int .i64 sp.who, .int .i64 sp.time, .int .u8 (sp.flags : Int), .slice LA1 ln1 lc1, .int .u32 (sp.n : Int), .int .u32 (sp.x : Int), .int .u32 (sp.y : Int), .bool sp.src.six, .int .u64 (sp.src.hi : Int), .int .u64 (sp.src.lo : Int), .int .u16 (sp.port : Int)] by rw [← hw9]; exact HRz.out.setAll #[.int .i64 sp.kind, .int .i64 0, .int .i64 0, .int .i64 0, .int .i64 0, .bool false, .int .u64 0, .int .u64 0, .int .u16 0, .int .u8 0, .int .i64 0, .slice none 0 0, .int .i64 sp.who, .int .i64 sp.time, .int .u8 (sp.flags : Int), .slice LA1 ln1 lc1, .int .u32 (sp.n : Int), .int .u32 (sp.x : Int), .int .u32 (sp.y : Int), .bool sp.src.six, .int .u64 (sp.src.hi : Int), .int .u64 (sp.src.lo : Int), .int .u16 (sp.port : Int)] rfl)
                        clear hw9
                        have HBZ := Lib.hid ((HKz.out.below (Nat.le_refl _) (fun i h => h.elim)).trans (HK9.out.below HKz.out.size (fun i e => by have := HRB.out; omega)))
                        refine bodyPost_ret (results_blk_tmp (P := Tryz.prog) (show Tryz.f7.results = _ from rfl) _ _ rb 41 #[.int .i64 sp.kind, .int .i64 0, .int .i64 0, .int .i64 0, .int .i64 0, .bool false, .int .u64 0, .int .u64 0, .int .u16 0, .int .u8 0, .int .i64 0, .slice none 0 0, .int .i64 sp.who, .int .i64 sp.time, .int .u8 (sp.flags : Int), .slice LA1 ln1 lc1, .int .u32 (sp.n : Int), .int .u32 (sp.x : Int), .int .u32 (sp.y : Int), .bool sp.src.six, .int .u64 (sp.src.hi : Int), .int .u64 (sp.src.lo : Int), .int .u16 (sp.port : Int)] _ rfl HR9.out Tryz.underlying41 rfl (by kernel_rfl)) rfl ⟨HBZ.out, ?_⟩
                        rw [HF.out, HFF.out]; exact ⟨.slice none 0 0, .slice LA1 ln1 lc1, by rw [show SpC (.slice none 0 0) (.slice LA1 ln1 lc1) sp = #[.int .i64 sp.kind, .int .i64 0, .int .i64 0, .int .i64 0, .int .i64 0, .bool false, .int .u64 0, .int .u64 0, .int .u16 0, .int .u8 0, .int .i64 0, .slice none 0 0, .int .i64 sp.who, .int .i64 sp.time, .int .u8 (sp.flags : Int), .slice LA1 ln1 lc1, .int .u32 (sp.n : Int), .int .u32 (sp.x : Int), .int .u32 (sp.y : Int), .bool sp.src.six, .int .u64 (sp.src.hi : Int), .int .u64 (sp.src.lo : Int), .int .u16 (sp.port : Int)] by unfold SpC; rw [hop]; rfl]; rfl, by rw [hop]; exact RowN.nil _ _ _ _, by rw [hld]; exact HLDZ.out.keep (fun g cs fr hg => HK9.out.block g (lt_of_heap hg) (fun e => by subst e; exact blk_not HRz.out hg (by decide)))⟩
              · have qe : (nk.toList == x.toList) = false := by rw [Lib.toList_data, Lib.toList_data]; exact beq_eq_false_iff_ne.2 he
                have HPR2 := Lib.hid (show ∀ j, 1 ≤ j → j < k + 1 → (nmB j).data.toList ≠ x.data.toList from fun j h1 h2 => by
                  rcases Nat.lt_or_ge j k with h | h
                  · exact HPR.out j h1 h
                  · obtain rfl : j = k := by omega
                    rw [HNK.out]; exact he)
                clear he
                go_upto_region 17 with fail
                refine wp_region_kept 8 [] ?st ?ne rfl (by kernel_rfl) (by kernel_rfl) ?_
                case st => intro p hp; cases hp
                case ne => intro p hp; cases hp
                simp only [List.take_succ_cons, List.take_zero, List.drop_succ_cons, List.drop_zero]
                intro G pick hR hp1 hp2
                have sN : ∀ u, (pick u).cell? ⟨nb, k, none⟩ = some (.string nk) := fun u => ((hp1 u).cell lNW (fun h => h) _).trans cN
                have sX : ∀ u, (pick u).cell? ⟨g, 0, none⟩ = some (.string x) := fun u => ((hp1 u).cell lXW (fun h => h) _).trans cX
                repeat (first | (refine wpR_det hp2 rfl ((hR.rel _).trans rfl) rfl ?_; intro K hK; go_big_quiet_op; go_big_quiet_on) | (refine wpR_ptr hp2 rfl ((hR.rel _).trans rfl) rfl rfl ?_; intro K hK; go_big_quiet_op; go_big_quiet_on) | (refine wpR_skip pick rfl ?_; intro K hK; go_big_quiet_op; go_big_quiet_on))
                refine wpR_nil ?_
                intro w4 hk2 hF hM
                have HKW := Lib.hid (HKW.out.trans hk2)
                have HRW := Lib.hid (HRW.out.kept hk2 (fun h => h))
                have HKB := Lib.hid (HKB.out.trans hk2)
                have cP : w4.cell? ⟨pb, k, none⟩ = some (.string pk) := (hk2.cell lPW (fun h => h) _).trans cP
                have lPW : pb < w4.heap.size := Nat.lt_of_lt_of_le lPW hk2.size
                clear hF hM hk2 hp1 hp2 hR sN sX cN cX
                go_wp2_with fail
                go_roundw
                case rel => exact ⟨k + 1, by omega, by omega, by go_num, HPR2, HKW⟩
                case measure => simp [intOf] <;> omega
            · obtain rfl : k = 16 := by omega
              have HF := Lib.hid (show lineP s.data.toList = none by
                rw [HLP.out, List.map_cons]
                unfold wordsP
                simp only
                rw [if_neg HNI.out, cmd_none (fun j h1 h2 => HPR.out j h1 (by omega))])
              have HRn := HRW
              have HKn := HKB
              go_wp2_with (show wpList _ _ _ ((⟨none, .store 41 (.tmp 2) _, _, _, _, none⟩ : Oper) :: _) _ _; refine wpList_store_mid rfl 41 (.tmp 2) _ rfl rb 0 #[.int .i64 0, .int .i64 0, .int .i64 0, .int .i64 0, .int .i64 0, .bool false, .int .u64 0, .int .u64 0, .int .u16 0, .int .u8 0, .int .i64 0, .slice none 0 0, .int .i64 0, .int .i64 0, .int .u8 0, .slice none 0 0, .int .u32 0, .int .u32 0, .int .u32 0, .bool false, .int .u64 0, .int .u64 0, .int .u16 0] rfl rfl (HRn.out.there rfl) (by kernel_rfl) (by simp [Value.oneCell']) ?_)
              generalize hw9 : (World.setCells _ _ _ _) = w9
              have HK9 := Lib.hid (show Kept (fun i => i = rb) wr w9 by rw [← hw9]; exact Kept.setCells (S := fun i => i = rb) rfl _ _ (Kept.refl _ _))
              have HR9 := Lib.hid (show Blk w9 rb 41 #[.int .i64 0, .int .i64 0, .int .i64 0, .int .i64 0, .int .i64 0, .bool false, .int .u64 0, .int .u64 0, .int .u16 0, .int .u8 0, .int .i64 0, .slice none 0 0, .int .i64 0, .int .i64 0, .int .u8 0, .slice none 0 0, .int .u32 0, .int .u32 0, .int .u32 0, .bool false, .int .u64 0, .int .u64 0, .int .u16 0] by rw [← hw9]; exact HRn.out.setAll #[.int .i64 0, .int .i64 0, .int .i64 0, .int .i64 0, .int .i64 0, .bool false, .int .u64 0, .int .u64 0, .int .u16 0, .int .u8 0, .int .i64 0, .slice none 0 0, .int .i64 0, .int .i64 0, .int .u8 0, .slice none 0 0, .int .u32 0, .int .u32 0, .int .u32 0, .bool false, .int .u64 0, .int .u64 0, .int .u16 0] rfl)
              clear hw9
              have HBZ := Lib.hid ((HKn.out.below (Nat.le_refl _) (fun i h => h.elim)).trans (HK9.out.below HKn.out.size (fun i e => by have := HRB.out; omega)))
              refine bodyPost_ret (results_blk_tmp (P := Tryz.prog) (show Tryz.f7.results = _ from rfl) _ _ rb 41 #[.int .i64 0, .int .i64 0, .int .i64 0, .int .i64 0, .int .i64 0, .bool false, .int .u64 0, .int .u64 0, .int .u16 0, .int .u8 0, .int .i64 0, .slice none 0 0, .int .i64 0, .int .i64 0, .int .u8 0, .slice none 0 0, .int .u32 0, .int .u32 0, .int .u32 0, .bool false, .int .u64 0, .int .u64 0, .int .u16 0] _ rfl HR9.out Tryz.underlying41 rfl (by kernel_rfl)) rfl ⟨HBZ.out, ?_⟩
              rw [HF.out]; try exact rfl
end Go.Proofs.YthfdhggcnkgjfaaGreatDoor
