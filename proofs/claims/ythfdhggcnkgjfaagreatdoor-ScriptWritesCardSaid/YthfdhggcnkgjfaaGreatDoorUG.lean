/- Same at plain steps; script.Write. -/
import Derived.Test.YthfdhggcnkgjfaaGreatDoorUF
import Derived.Test.YthfdhggcnkgjfaaGreatDoorF
namespace Go.Proofs.YthfdhggcnkgjfaaGreatDoor
open Go.RowKit
set_option linter.unusedVariables false
set_option linter.unusedSimpArgs false
theorem wpList_load_g {P : Program} {ops : Array Oper} {rest : List Oper} {op : Oper} {a : Act} {w : World} {Q : Exit → Act → World → Prop} (hw : Region.wanted op (yielded ops a.tmps) = true) (ty : TypeId) (x : Operand) (ho : op.op = .load ty x)
    (b o : Nat) (hx : a.eval x = .pointer (some ⟨b, o, none⟩)) (cs : List Value) (d : TypeDesc) (hc : w.rangeAt b o cs)
    (hu : P.underlying ty = some d) (hd : d.isRow = true) (hi : (P.info? ty).map (·.size) = some cs.length)
    (h : wpList P ops Q rest (a.put op.dst (.agg cs.toArray)) w) : wpList P ops Q (op :: rest) a w :=
  wpList_step fun K hK => by rw [if_pos hw]; exact wp_load_mid ty x ho b o hx cs d hc hu hd hi (hK _ _ h)
def toMb (m : Int × Int) : Mb := ⟨m.1, m.2⟩
theorem toMb_cs (l : List (Int × Int)) : (l.map toMb).map Mb.cs = mcs l := by
  rw [List.map_map]
  rfl
theorem toMb_inj {l m : List (Int × Int)} (h : l.map toMb = m.map toMb) : l = m := by
  induction l generalizing m with
  | nil => cases m with
    | nil => rfl
    | cons b m => cases h
  | cons a l ih => cases m with
    | nil => cases h
    | cons b m =>
      injection h with h1 h2
      obtain ⟨a1, a2⟩ := a
      obtain ⟨b1, b2⟩ := b
      injection h1 with h3 h4
      rw [show a1 = b1 from h3, show a2 = b2 from h4, ih h2]
def sameB (t s : Sp) : Bool := decide (t.kind = s.kind ∧ (t.op.kind = s.op.kind ∧ t.op.vip = s.op.vip ∧ t.op.backend = s.op.backend ∧ t.op.version = s.op.version ∧ t.op.a.six = s.op.a.six ∧ (t.op.a.hi : Int) = (s.op.a.hi : Int) ∧ (t.op.a.lo : Int) = (s.op.a.lo : Int) ∧ (t.op.port : Int) = (s.op.port : Int) ∧ (t.op.proto : Int) = (s.op.proto : Int) ∧ t.op.way = s.op.way ∧ t.op.ms.map toMb = s.op.ms.map toMb) ∧ t.who = s.who ∧ t.time = s.time ∧ (t.flags : Int) = (s.flags : Int) ∧ t.load = s.load ∧ (t.n : Int) = (s.n : Int) ∧ (t.x : Int) = (s.x : Int) ∧ (t.y : Int) = (s.y : Int) ∧ t.src.six = s.src.six ∧ (t.src.hi : Int) = (s.src.hi : Int) ∧ (t.src.lo : Int) = (s.src.lo : Int) ∧ (t.port : Int) = (s.port : Int))
theorem sameB_iff (t s : Sp) : sameB t s = true ↔ t = s := by
  unfold sameB
  rw [decide_eq_true_iff]
  constructor
  · rintro ⟨h0, ⟨h1, h2, h3, h4, h5, h6, h7, h8, h9, h10, h11⟩, h12, h13, h14, h15, h16, h17, h18, h19, h20, h21, h22⟩
    obtain ⟨k, ⟨ok, ov, ob, oe, ⟨o6, oh, ol⟩, op, oq, ow, oms⟩, wh, tm, fl, ld, n, x, y, ⟨s6, sh, sl⟩, po⟩ := t
    obtain ⟨k', ⟨ok', ov', ob', oe', ⟨o6', oh', ol'⟩, op', oq', ow', oms'⟩, wh', tm', fl', ld', n', x', y', ⟨s6', sh', sl'⟩, po'⟩ := s
    simp only at *
    have h11 := toMb_inj h11
    simp only [Int.natCast_inj] at *
    subst h0 h1 h2 h3 h4 h5 h6 h7 h8 h9 h10 h11 h12 h13 h14 h15 h16 h17 h18 h19 h20 h21 h22
    rfl
  · rintro rfl
    exact ⟨rfl, ⟨rfl, rfl, rfl, rfl, rfl, rfl, rfl, rfl, rfl, rfl, rfl⟩, rfl, rfl, rfl, rfl, rfl, rfl, rfl, rfl, rfl, rfl, rfl⟩
theorem sameS (t s : Sp) (MA LA MAz LAz : Option Addr) (mc lc mcz lcz : Nat) (w : World) (hm : t.op.ms.length ≤ maxLen) (hM : ES w w.heap.size MA 2 (mcs t.op.ms)) (hMz : ES w w.heap.size MAz 2 (mcs s.op.ms)) (hl : t.load.length ≤ maxLen) (hL : BS w w.heap.size LA t.load) (hLz : BS w w.heap.size LAz s.load) :
    Calls Tryz.prog 8 #[.agg (SpC (.slice MA t.op.ms.length mc) (.slice LA t.load.length lc) t), .agg (SpC (.slice MAz s.op.ms.length mcz) (.slice LAz s.load.length lcz) s)] w fun e w' => e = .returned (.bool (sameB t s)) ∧ Kept (fun _ => False) w w' := by
  have h := same_any t.kind s.kind t.op.kind s.op.kind t.op.vip s.op.vip t.op.backend s.op.backend t.op.version s.op.version t.op.a.six s.op.a.six (t.op.a.hi : Int) (s.op.a.hi : Int) (t.op.a.lo : Int) (s.op.a.lo : Int) (t.op.port : Int) (s.op.port : Int) (t.op.proto : Int) (s.op.proto : Int) t.op.way s.op.way MA MAz mc mcz (t.op.ms.map toMb) (s.op.ms.map toMb) t.who s.who t.time s.time (t.flags : Int) (s.flags : Int) LA LAz lc lcz t.load s.load (t.n : Int) (s.n : Int) (t.x : Int) (s.x : Int) (t.y : Int) (s.y : Int) t.src.six s.src.six (t.src.hi : Int) (s.src.hi : Int) (t.src.lo : Int) (s.src.lo : Int) (t.port : Int) (s.port : Int) w (by rw [List.length_map]; exact hm) (by rw [toMb_cs]; exact hM) (by rw [toMb_cs]; exact hMz) hl hL hLz
  rw [List.length_map, List.length_map] at h
  refine h.mono ?_
  rintro e w' ⟨rfl, hb⟩
  exact ⟨rfl, Kept.ofB hb⟩
/-- Is a step the one that was read? -/
def sameO (o : Option Sp) (s : Sp) : Bool := match o with
  | none => false
  | some t => sameB t s
theorem sameO_iff (o : Option Sp) (s : Sp) : sameO o s = true ↔ o = some s := by
  cases o with
  | none => exact ⟨fun h => (by cases h), fun h => (by cases h)⟩
  | some t =>
    show sameB t s = true ↔ _
    rw [sameB_iff]
    exact ⟨fun h => by rw [h], fun h => by injection h⟩
def writeW (s : Sp) : List UInt8 := if sameO (lineP (writeP s)) s = true then writeP s else []
theorem writeW_same {s : Sp} {t : Option Sp} {l : List UInt8} {b : Bool} (h1 : lineP (writeP s) = t) (h2 : sameO t s = b) (h3 : writeP s = l) : writeW s = if b = true then l else [] := by
  unfold writeW
  rw [h1, h2, h3]
set_option maxRecDepth 20000 in
set_option maxHeartbeats 40000000 in
theorem Write_any (s : Sp) (MA LA : Option Addr) (mc lc : Nat) (w : World) (hT : Tabs w) (hI : SpI s) (hl : s.op.ms.length ≤ 70) (hld : s.load.length ≤ 4000) (hw : (writeP s).length ≤ 4000) (hM : ES w w.heap.size MA 2 (mcs s.op.ms)) (hL : BS w w.heap.size LA s.load) :
    Calls Tryz.prog 10 #[.agg (SpC (.slice MA s.op.ms.length mc) (.slice LA s.load.length lc) s)] w (WordR w (writeW s)) := by
  have HW := Lib.hid (fun W (h : Kept (fun _ => False) w W) => write_any s MA LA mc lc W (hT.on h) hI hl hld (hM.on h (fun _ _ h => h)) (hL.on h (fun _ _ h => h)))
  have HM := Lib.hid hM
  have HLD := Lib.hid hL
  have HLL := Lib.hid hw
  have HLS := Lib.hid (fun b (h : sameO (lineP (writeP s)) s = b) => writeW_same (s := s) rfl h rfl)
  obtain ⟨t, ht⟩ : ∃ t, lineP (writeP s) = t := ⟨_, rfl⟩
  have HTE := Lib.hid ht
  rw [ht] at HLS
  clear hT hI hl hld hw hM hL ht
  unfold SpC
  go_enter Tryz.func10, Tryz.ntmps10
  go_upto_region 1 with fail
  obtain ⟨w0, hw0⟩ : ∃ w0 : World, w0 = w.alloc (.cells #[.int .i64 s.kind, .int .i64 s.op.kind, .int .i64 s.op.vip, .int .i64 s.op.backend, .int .i64 s.op.version, .bool s.op.a.six, .int .u64 (s.op.a.hi : Int), .int .u64 (s.op.a.lo : Int), .int .u16 (s.op.port : Int), .int .u8 (s.op.proto : Int), .int .i64 s.op.way, .slice MA s.op.ms.length mc, .int .i64 s.who, .int .i64 s.time, .int .u8 (s.flags : Int), .slice LA s.load.length lc, .int .u32 (s.n : Int), .int .u32 (s.x : Int), .int .u32 (s.y : Int), .bool s.src.six, .int .u64 (s.src.hi : Int), .int .u64 (s.src.lo : Int), .int .u16 (s.port : Int)] 33) := ⟨_, rfl⟩
  have HK0 := Lib.hid (show Kept (fun _ => False) w w0 by rw [hw0]; exact (Kept.refl _ _).alloc _)
  have HN0 := Lib.hid (show Blk w0 w.heap.size 33 #[.int .i64 s.kind, .int .i64 s.op.kind, .int .i64 s.op.vip, .int .i64 s.op.backend, .int .i64 s.op.version, .bool s.op.a.six, .int .u64 (s.op.a.hi : Int), .int .u64 (s.op.a.lo : Int), .int .u16 (s.op.port : Int), .int .u8 (s.op.proto : Int), .int .i64 s.op.way, .slice MA s.op.ms.length mc, .int .i64 s.who, .int .i64 s.time, .int .u8 (s.flags : Int), .slice LA s.load.length lc, .int .u32 (s.n : Int), .int .u32 (s.x : Int), .int .u32 (s.y : Int), .bool s.src.six, .int .u64 (s.src.hi : Int), .int .u64 (s.src.lo : Int), .int .u16 (s.port : Int)] by rw [hw0]; exact Blk.new _ _ _)
  rw [← hw0]
  clear hw0
  have HW0 := Lib.hid (HW.out w0 HK0.out)
  unfold SpC at HW0
  go_wp2_with (show wpList _ _ _ ((⟨_, .load 33 (.tmp 1), _, _, _, none⟩ : Oper) :: _) _ _; refine wpList_load_mid rfl 33 (.tmp 1) rfl w.heap.size 0 rfl [.int .i64 s.kind, .int .i64 s.op.kind, .int .i64 s.op.vip, .int .i64 s.op.backend, .int .i64 s.op.version, .bool s.op.a.six, .int .u64 (s.op.a.hi : Int), .int .u64 (s.op.a.lo : Int), .int .u16 (s.op.port : Int), .int .u8 (s.op.proto : Int), .int .i64 s.op.way, .slice MA s.op.ms.length mc, .int .i64 s.who, .int .i64 s.time, .int .u8 (s.flags : Int), .slice LA s.load.length lc, .int .u32 (s.n : Int), .int .u32 (s.x : Int), .int .u32 (s.y : Int), .bool s.src.six, .int .u64 (s.src.hi : Int), .int .u64 (s.src.lo : Int), .int .u16 (s.port : Int)] _ HN0.out.range Tryz.underlying33 rfl (by kernel_rfl) ?_)
  refine HW0.out.mono ?_
  rintro e w1 ⟨yl, rfl, hyl, hk⟩
  have HYL := Lib.hid hyl
  have HK1 := Lib.hid (HK0.out.trans hk)
  have HN1 := Lib.hid (HN0.out.kept hk (fun h => h))
  have HPS := Lib.hid (fun W => parse_any yl (by rw [Lib.size_eq, hyl]; exact HLL.out) W)
  rw [hyl, HTE.out] at HPS
  clear hyl hk HW0 HW HK0 HN0 HLL
  go_wp2_with fail
  refine (HPS.out w1).mono ?_
  rintro e w2 ⟨hb2, hpr⟩
  have HK2 := Lib.hid (HK1.out.trans (Kept.ofB hb2))
  have HN2 := Lib.hid (HN1.out.below hb2 HN1.out.lt)
  clear hb2 HPS
  cases t with
  | none =>
    obtain rfl : e = _ := hpr
    unfold Z33
    go_upto_region 3 with (show wpList _ _ _ ((⟨none, .store 33 (.tmp 4) _, _, _, _, none⟩ : Oper) :: _) _ _; refine wpList_store_mid rfl 33 (.tmp 4) _ rfl w2.heap.size 0 #[.int .i64 0, .int .i64 0, .int .i64 0, .int .i64 0, .int .i64 0, .bool false, .int .u64 0, .int .u64 0, .int .u16 0, .int .u8 0, .int .i64 0, .slice none 0 0, .int .i64 0, .int .i64 0, .int .u8 0, .slice none 0 0, .int .u32 0, .int .u32 0, .int .u32 0, .bool false, .int .u64 0, .int .u64 0, .int .u16 0] rfl rfl ((Blk.new w2 33 #[.int .i64 0, .int .i64 0, .int .i64 0, .int .i64 0, .int .i64 0, .bool false, .int .u64 0, .int .u64 0, .int .u16 0, .int .u8 0, .int .i64 0, .slice none 0 0, .int .i64 0, .int .i64 0, .int .u8 0, .slice none 0 0, .int .u32 0, .int .u32 0, .int .u32 0, .bool false, .int .u64 0, .int .u64 0, .int .u16 0]).there rfl) (by kernel_rfl) (by simp [Value.oneCell']) ?_)
    generalize hw3 : (World.setCells _ _ _ _) = w3
    have HK3 := Lib.hid (show Kept (fun _ => False) w w3 by rw [← hw3]; exact (HK2.out.alloc _).then (Kept.setCells (S := fun i => i = w2.heap.size) rfl _ _ (Kept.refl _ _)) (fun i hi e => by have := HK2.out.size; omega))
    clear hw3
    go_wp2_with fail
    go_ret
    exact ⟨_, rfl, by rw [HLS.out false rfl]; rfl, HK3.out⟩
  | some t =>
    obtain ⟨mv, lv, rfl, hmem, hld⟩ := hpr
    obtain ⟨MB, mcb, rfl, hmc1, hmc2, hme⟩ := RowN.es hmem
    obtain ⟨LB, lcb, rfl, hlc1, hlc2, hle⟩ := hld.byt
    rw [mcs_len] at hmc1 ⊢
    have HMB := Lib.hid hme
    have HLB := Lib.hid hle
    unfold SpC
    go_upto_region 3 with (show wpList _ _ _ ((⟨none, .store 33 (.tmp 4) _, _, _, _, none⟩ : Oper) :: _) _ _; refine wpList_store_mid rfl 33 (.tmp 4) _ rfl w2.heap.size 0 #[.int .i64 t.kind, .int .i64 t.op.kind, .int .i64 t.op.vip, .int .i64 t.op.backend, .int .i64 t.op.version, .bool t.op.a.six, .int .u64 (t.op.a.hi : Int), .int .u64 (t.op.a.lo : Int), .int .u16 (t.op.port : Int), .int .u8 (t.op.proto : Int), .int .i64 t.op.way, .slice MB t.op.ms.length mcb, .int .i64 t.who, .int .i64 t.time, .int .u8 (t.flags : Int), .slice LB t.load.length lcb, .int .u32 (t.n : Int), .int .u32 (t.x : Int), .int .u32 (t.y : Int), .bool t.src.six, .int .u64 (t.src.hi : Int), .int .u64 (t.src.lo : Int), .int .u16 (t.port : Int)] rfl rfl ((Blk.new w2 33 #[.int .i64 0, .int .i64 0, .int .i64 0, .int .i64 0, .int .i64 0, .bool false, .int .u64 0, .int .u64 0, .int .u16 0, .int .u8 0, .int .i64 0, .slice none 0 0, .int .i64 0, .int .i64 0, .int .u8 0, .slice none 0 0, .int .u32 0, .int .u32 0, .int .u32 0, .bool false, .int .u64 0, .int .u64 0, .int .u16 0]).there rfl) (by kernel_rfl) (by simp [Value.oneCell']) ?_)
    generalize hw3 : (World.setCells _ _ _ _) = w3
    have HKA := Lib.hid (show Kept (fun _ => False) w2 w3 by rw [← hw3]; exact ((Kept.refl _ _).alloc _).then (Kept.setCells (S := fun i => i = w2.heap.size) rfl _ _ (Kept.refl _ _)) (fun i hi e => by omega))
    have HK3 := Lib.hid (HK2.out.trans HKA.out)
    have HN3 := Lib.hid (HN2.out.kept HKA.out (fun h => h))
    have HB3 := Lib.hid (show Blk w3 w2.heap.size 33 #[.int .i64 t.kind, .int .i64 t.op.kind, .int .i64 t.op.vip, .int .i64 t.op.backend, .int .i64 t.op.version, .bool t.op.a.six, .int .u64 (t.op.a.hi : Int), .int .u64 (t.op.a.lo : Int), .int .u16 (t.op.port : Int), .int .u8 (t.op.proto : Int), .int .i64 t.op.way, .slice MB t.op.ms.length mcb, .int .i64 t.who, .int .i64 t.time, .int .u8 (t.flags : Int), .slice LB t.load.length lcb, .int .u32 (t.n : Int), .int .u32 (t.x : Int), .int .u32 (t.y : Int), .bool t.src.six, .int .u64 (t.src.hi : Int), .int .u64 (t.src.lo : Int), .int .u16 (t.port : Int)] by rw [← hw3]; exact (Blk.new w2 33 #[.int .i64 0, .int .i64 0, .int .i64 0, .int .i64 0, .int .i64 0, .bool false, .int .u64 0, .int .u64 0, .int .u16 0, .int .u8 0, .int .i64 0, .slice none 0 0, .int .i64 0, .int .i64 0, .int .u8 0, .slice none 0 0, .int .u32 0, .int .u32 0, .int .u32 0, .bool false, .int .u64 0, .int .u64 0, .int .u16 0]).setAll _ rfl)
    have HSM := Lib.hid (sameS t s MB LB MA LA mcb lcb mc lc w3 (Nat.le_trans hmc1 hmc2) (HMB.out.on HKA.out (fun _ _ h => h)) (HM.out.on HK3.out (fun _ _ h => h)) (Nat.le_trans hlc1 hlc2) (HLB.out.on HKA.out (fun _ _ h => h)) (HLD.out.on HK3.out (fun _ _ h => h)))
    have HL2 := Lib.hid (fun b (h : sameB t s = b) => HLS.out b h)
    obtain ⟨b, hb⟩ : ∃ b, sameB t s = b := ⟨_, rfl⟩
    rw [hb] at HSM
    have HL3 := Lib.hid (HL2.out b hb)
    unfold SpC at HSM
    obtain ⟨tb, htb⟩ : ∃ tb, w2.heap.size = tb := ⟨_, rfl⟩
    rw [htb] at HB3 ⊢
    clear hw3 hme hle hmem hld HL2 HLS hb HMB HLB HKA htb hmc1 hmc2 hlc1 hlc2
    go_wp2_with (first | (show wpList _ _ _ ((⟨_, .load 33 (.tmp 4), _, _, _, some _⟩ : Oper) :: _) _ _; refine wpList_load_g rfl 33 (.tmp 4) rfl tb 0 rfl [.int .i64 t.kind, .int .i64 t.op.kind, .int .i64 t.op.vip, .int .i64 t.op.backend, .int .i64 t.op.version, .bool t.op.a.six, .int .u64 (t.op.a.hi : Int), .int .u64 (t.op.a.lo : Int), .int .u16 (t.op.port : Int), .int .u8 (t.op.proto : Int), .int .i64 t.op.way, .slice MB t.op.ms.length mcb, .int .i64 t.who, .int .i64 t.time, .int .u8 (t.flags : Int), .slice LB t.load.length lcb, .int .u32 (t.n : Int), .int .u32 (t.x : Int), .int .u32 (t.y : Int), .bool t.src.six, .int .u64 (t.src.hi : Int), .int .u64 (t.src.lo : Int), .int .u16 (t.port : Int)] _ HB3.out.range Tryz.underlying33 rfl (by kernel_rfl) ?_) | (show wpList _ _ _ ((⟨_, .load 33 (.tmp 1), _, _, _, some _⟩ : Oper) :: _) _ _; refine wpList_load_g rfl 33 (.tmp 1) rfl w.heap.size 0 rfl [.int .i64 s.kind, .int .i64 s.op.kind, .int .i64 s.op.vip, .int .i64 s.op.backend, .int .i64 s.op.version, .bool s.op.a.six, .int .u64 (s.op.a.hi : Int), .int .u64 (s.op.a.lo : Int), .int .u16 (s.op.port : Int), .int .u8 (s.op.proto : Int), .int .i64 s.op.way, .slice MA s.op.ms.length mc, .int .i64 s.who, .int .i64 s.time, .int .u8 (s.flags : Int), .slice LA s.load.length lc, .int .u32 (s.n : Int), .int .u32 (s.x : Int), .int .u32 (s.y : Int), .bool s.src.six, .int .u64 (s.src.hi : Int), .int .u64 (s.src.lo : Int), .int .u16 (s.port : Int)] _ HN3.out.range Tryz.underlying33 rfl (by kernel_rfl) ?_))
    refine HSM.out.mono ?_
    rintro e w4 ⟨rfl, hk⟩
    have HK4 := Lib.hid (HK3.out.trans hk)
    clear hk
    cases b with
    | true =>
      go_wp2_with fail
      go_ret
      exact ⟨yl, rfl, by rw [HYL.out, HL3.out]; rfl, HK4.out⟩
    | false =>
      go_wp2_with fail
      go_ret
      exact ⟨_, rfl, by rw [HL3.out]; rfl, HK4.out⟩
end Go.Proofs.YthfdhggcnkgjfaaGreatDoor
