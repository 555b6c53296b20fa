/- The walk of SumKeeps. -/
import Derived.Test.YteoikfjjlpcicaaB
import Derived.Deep.QuietTactic
import Derived.BigQuiet
import Derived.OwnWalk
namespace Go.Proofs.Yteoikfjjlpcicaa
open Go.RowKit

theorem Try.info5 : (Try.prog.info? 5).map (fun i => (i.zero, i.size, i.bytes)) = some (some (.int .u8 0), 1, 1) := by kernel_rfl

set_option maxHeartbeats 4000000 in
theorem sumKeeps_far (x now : Int) (A : Option Addr) (n cap : Nat) (w : World) (h : 2000 < n ∨ n < 4) (hn : n ≤ 9223372036854775807) :
    Calls Try.prog 3 #[.slice A n cap, .int .u16 x, .int .u16 now] w fun e w' => e = .returned (.bool true) ∧ Below w.heap.size w w' := by
  rcases h with h | h
  · go_enter Try.func3, Try.ntmps3
    go_wp2_with fail
    refine (awake_any _).mono ?_
    rintro e w' ⟨rfl, hb⟩
    go_wp2_with fail
    go_ret
    exact ⟨rfl, hb⟩
  · have h1 : ¬ 2000 < n := by omega
    go_enter Try.func3, Try.ntmps3
    go_wp2_with fail
    refine (awake_any _).mono ?_
    rintro e w' ⟨rfl, hb⟩
    go_wp2_with fail
    go_ret
    exact ⟨rfl, hb⟩


/-- Sums with a word replaced. -/
theorem total_word (l : List UInt8) (q : Nat) (h : 2 * q + 1 < l.length) (a c : UInt8) :
    total true ((l.set (2 * q) a).set (2 * q + 1) c) = total true l - ((l[2 * q].toNat : Int) * 256 + (l[2 * q + 1].toNat : Int)) + ((a.toNat : Int) * 256 + (c.toNat : Int)) := by
  rw [total_set true _ (2 * q + 1) c (by simpa using h), par_succ, par_even, if_neg (by decide), total_set true l (2 * q) a (by omega), par_even, if_pos rfl]
  rw [List.getElem_set_ne (by omega)]
  omega
/-- Bytes that are right stay so. -/
theorem keeps_plain (T was now : Int) (hT : 0 < T) (w0 : 0 ≤ was) (w1 : was ≤ 65535) (n0 : 0 ≤ now) (n1 : now ≤ 65535) (h3 : 0 < T - was + now) :
    norm (T - was + now + updI (65535 - norm T) was now) = 65535 := by
  have hr := norm_range T
  unfold updI
  have e : 65535 - (65535 - norm T) + (65535 - was) + now = norm T + (65535 - was) + now := by omega
  rw [e]
  unfold norm at *
  rw [if_neg (show ¬ T = 0 by omega)] at hr ⊢
  rw [if_neg (show ¬ ((T - 1) % 65535 + 1 + (65535 - was) + now = 0) by omega), if_neg (by omega)]
  omega

theorem of_n (pb po pc cap B n : Nat) (A : Option Addr) (l : List UInt8) (w : World) (hn : l.length = n) (hl : n ≤ 100000) (hp : w.cell? ⟨pb, po, none⟩ = some (.slice A n cap)) (hb : BS w B A l) (f : Int) (hf : norm (total true l) = f) :
    Calls Try.prog 6 #[.slice (some ⟨pb, po, none⟩) 1 pc] w fun e w' => e = .returned (.int .u16 (65535 - f)) ∧ w = w' := by
  subst hn hf; exact of_any pb po pc cap B A l w hl hp hb
theorem refOf_n (cap B n : Nat) (A : Option Addr) (l : List UInt8) (m : Nat) (hn : l.length = n) (hm : n = 2 * m) (w : World) (hl : n ≤ 100000) (hb : BS w B A l) (f : Int) (hf : norm (total true l) = f) :
    Calls Try.prog 8 #[.slice A n cap] w fun e w' => e = .returned (.int .u16 (65535 - f)) ∧ w = w' := by
  subst hn hf; exact refOf_any cap B A l m hm w hl hb
theorem right_n (pb po pc cap B n : Nat) (A : Option Addr) (l : List UInt8) (w : World) (hn' : l.length = n) (hl : n ≤ 100000) (hp : w.cell? ⟨pb, po, none⟩ = some (.slice A n cap)) (hb : BS w B A l) (hn : norm (total true l) = 65535) :
    Calls Try.prog 9 #[.slice (some ⟨pb, po, none⟩) 1 pc] w fun e w' => e = .returned (.bool true) ∧ w = w' := by
  subst hn'; exact right_any pb po pc cap B A l w hl hp hb hn
theorem zero01 (l : List UInt8) (x y : UInt8) (h : 4 ≤ l.length) : ((l.set 0 x).set 1 y)[0]? = some x ∧ ((l.set 0 x).set 1 y)[1]? = some y := by
  constructor
  · rw [List.getElem?_set_ne (by omega), List.getElem?_set_self (by omega)]
  · rw [List.getElem?_set_self (by rw [List.length_set]; omega)]
/-- The sums along the way. -/
theorem way_sums (l2 : List UInt8) (k q : Nat) (hk : 2 * (q + 1) = k) (hk1 : k + 1 < l2.length) (T c d : Int) (hT : total true l2 = T) (hc : (l2[k].toNat : Int) = c) (hd : (l2[k + 1].toNat : Int) = d)
    (z0 : l2[0]? = some 0) (z1 : l2[1]? = some 0) (hi lo th tl : UInt8) :
    total true ((l2.set k hi).set (k + 1) lo) = T - (c * 256 + d) + ((hi.toNat : Int) * 256 + (lo.toNat : Int)) ∧
    total true ((((l2.set k hi).set (k + 1) lo).set 0 th).set 1 tl) = T - (c * 256 + d) + ((hi.toNat : Int) * 256 + (lo.toNat : Int)) + ((th.toNat : Int) * 256 + (tl.toNat : Int)) := by
  subst hk
  have e1 := total_word l2 (q + 1) hk1 hi lo
  rw [hT, hc, hd] at e1
  refine ⟨e1, ?_⟩
  have e2 := total_word ((l2.set (2 * (q + 1)) hi).set (2 * (q + 1) + 1) lo) 0 (by simp; omega) th tl
  have g0 : ((l2.set (2 * (q + 1)) hi).set (2 * (q + 1) + 1) lo)[2 * 0]'(by simp; omega) = 0 := by
    rw [List.getElem_set_ne (by omega), List.getElem_set_ne (by omega)]
    exact Option.some.inj ((List.getElem?_eq_getElem (by omega)).symm.trans z0)
  have g1 : ((l2.set (2 * (q + 1)) hi).set (2 * (q + 1) + 1) lo)[2 * 0 + 1]'(by simp; omega) = 0 := by
    rw [List.getElem_set_ne (by omega), List.getElem_set_ne (by omega)]
    exact Option.some.inj ((List.getElem?_eq_getElem (by omega)).symm.trans z1)
  rw [g0, g1, e1] at e2
  simpa using e2
theorem u16_join (c d : Int) (c0 : 0 ≤ c) (c1 : c ≤ 255) (d0 : 0 ≤ d) (d1 : d ≤ 255) : bits .or .u16 (c * 256) d = c * 256 + d := by
  obtain ⟨c, rfl⟩ := Int.eq_ofNat_of_zero_le c0
  obtain ⟨d, rfl⟩ := Int.eq_ofNat_of_zero_le d0
  have := u16_or_nat (c * 256) d (by omega) (by omega)
  rw [nat_join 8 (c * 256) d (by omega) (by omega)] at this
  simpa using this

set_option maxRecDepth 100000 in
set_option maxHeartbeats 8000000 in
theorem sumKeeps_any (x now : Int) (b off cap : Nat) (l : List UInt8) (w : World) (x0 : 0 ≤ x) (x1 : x ≤ 65535) (n0 : 0 ≤ now) (n1 : now ≤ 65535) (h4 : 4 ≤ l.length) (h2000 : l.length ≤ 2000) (hcap : l.length ≤ cap) (hb : b < w.heap.size) (hc : BytesAt w b off l) :
    Calls Try.prog 3 #[.slice (some ⟨b, off, none⟩) l.length cap, .int .u16 x, .int .u16 now] w fun e w' => e = .returned (.bool true) ∧ Below w.heap.size w w' := by
  have HC := Lib.hid hc
  obtain ⟨i0, hi0, hz0, hz1, hz2⟩ := info_parts Try.info5
  have hd1 : decide ((2000 : Int) < (l.length : Int)) = false := by simp; omega
  have hd2 : decide ((l.length : Int) < 4) = false := by simp; omega
  obtain ⟨m, hm⟩ : ∃ m : Nat, l.length / 2 * 2 = m := ⟨_, rfl⟩
  have hmI : (l.length : Int) / 2 * 2 = (m : Int) := by omega
  have hmc : m ≤ cap := by omega
  have hm4 : 4 ≤ m := by omega
  have hm2000 : m ≤ 2000 := by omega
  have hm2 : m = 2 * (m / 2) := by omega
  have hml : (l.take m).length = m := by rw [List.length_take]; omega
  have HM2 := Lib.hid hm2
  have HML := Lib.hid hml
  clear hc hm hm2 hml
  go_enter Try.func3, Try.ntmps3
  go_wp2_with (at_builtin; refine wpList_append_lies _ rfl _ _ 22 rfl w.heap.size 5 i0 (.int .u8 0) 1 1 Try.underlying22 hi0 hz0 hz1 hz2 rfl (by decide) _ 0 [] rfl (World.ownsRow_made w #[] 0 (Nat.le_refl _) (by decide) rfl) ⟨b, off, none⟩ m cap (bcs (l.take m)) rfl ?c1 ?c2 (bcs_one _) ?c3 ?c4 ?c5 ?c6 _ rfl ?_)
  case c1 => rw [bcs_length, HML.out, Nat.mul_one]
  case c2 => exact ((HC.out.take m).alloc hb _).news
  case c3 => omega
  case c4 => unfold maxLen; omega
  case c5 => omega
  case c6 => simp
  intro g c1 w1 hown hgrow _ _
  obtain ⟨hO, -, hg0⟩ := Own.of_own hown
  have hK : Kept (fun i => w.heap.size ≤ i) w w1 := ((Kept.refl _ w).alloc _).then (Kept.of_grown (S := fun i => w.heap.size ≤ i) hgrow (fun i _ e => by simp [Value.ownBlock] at e; omega)) (fun i _ h => h)
  have hlen := HML.out
  generalize hl1 : l.take m = l1 at hO hlen
  clear hl1 hown hgrow HC hd1 hd2 hmI hmc hcap h4 h2000
  subst hlen
  -- the place of the word
  obtain ⟨d, hd⟩ : ∃ d : Nat, l1.length / 2 - 1 = d := ⟨_, rfl⟩
  have hdI : (l1.length : Int) / 2 - 1 = (d : Int) := by omega
  have hd0 : ((d : Int) == 0) = false := beq_eq_false_iff_ne.2 (by omega)
  obtain ⟨q, hq, hqI⟩ : ∃ q : Nat, q < d ∧ x % (d : Int) = (q : Int) := ⟨(x % (d : Int)).toNat, by have := Int.emod_lt_of_pos x (b := (d : Int)) (by omega); have := Int.emod_nonneg x (b := (d : Int)) (by omega); omega, by have := Int.emod_nonneg x (b := (d : Int)) (by omega); omega⟩
  obtain ⟨k, hk⟩ : ∃ k : Nat, 2 * (q + 1) = k := ⟨_, rfl⟩
  have hkI : 2 + (q : Int) * 2 = (k : Int) := by omega
  have hk1 : k + 1 < l1.length := by have := HM2.out; omega
  have hk2 : 2 ≤ k := by omega
  have HKQ := Lib.hid hk
  obtain ⟨y0, c0⟩ : ∃ y0 : Int, w1.cell? ⟨g, 0, none⟩ = some (.int .u8 y0) := ⟨_, hO.cell (i := 0) (by omega)⟩
  obtain ⟨y1, c1'⟩ : ∃ y1 : Int, w1.cell? ⟨g, 1, none⟩ = some (.int .u8 y1) := ⟨_, hO.cell (i := 1) (by omega)⟩
  have f0 := hO.frozen
  have HO := Lib.hid hO
  have HK := Lib.hid hK
  have hs1 := hK.size
  have hglt := hO.lt
  clear hd hk hO hK
  go_wp2_with fail
  have hO2 : Own ((w1.setCell ⟨g, 0, none⟩ (.int .u8 0)).setCell ⟨g, 1, none⟩ (.int .u8 0)) 5 g c1 ((l1.set 0 0).set 1 0) := (HO.out.set 0 0).set 1 0
  have hK2 : Kept (fun i => w.heap.size ≤ i) w ((w1.setCell ⟨g, 0, none⟩ (.int .u8 0)).setCell ⟨g, 1, none⟩ (.int .u8 0)) := (HK.out.setIn hg0).setIn hg0
  obtain ⟨l2, hl2⟩ : ∃ l2, (l1.set 0 0).set 1 0 = l2 := ⟨_, rfl⟩
  have hlen2 : l2.length = l1.length := by rw [← hl2]; simp
  have z0 : l2[0]? = some 0 := by subst hl2; exact (zero01 l1 0 0 hm4).1
  have z1 : l2[1]? = some 0 := by subst hl2; exact (zero01 l1 0 0 hm4).2
  rw [hl2] at hO2
  have Z0 := Lib.hid z0
  have Z1 := Lib.hid z1
  clear hl2 c0 c1' f0 HO HK HML z0 z1
  generalize hw2 : (w1.setCell ⟨g, 0, none⟩ (.int .u8 0)).setCell ⟨g, 1, none⟩ (.int .u8 0) = w2 at hO2 hK2 ⊢
  have hsz2 : w1.heap.size = w2.heap.size := by rw [← hw2]; simp [World.setCell]
  rw [hsz2]
  rw [hsz2] at hglt hs1
  clear hw2 hsz2
  generalize hN : l1.length = N at *
  clear hN
  have HL2 := Lib.hid hlen2
  obtain ⟨T, hT⟩ : ∃ T, total true l2 = T := ⟨_, rfl⟩
  obtain ⟨f, hf⟩ : ∃ f, norm T = f := ⟨_, rfl⟩
  have hfr := norm_range T
  rw [hf] at hfr
  have hTn := total_nonneg true l2
  rw [hT] at hTn
  obtain ⟨hf0, hf1⟩ := hfr
  have HT := Lib.hid hT
  have HF := Lib.hid hf
  have HO2 := Lib.hid hO2
  have HK2 := Lib.hid hK2
  have hF0 := norm_zero T
  rw [hf] at hF0
  have HF0 := Lib.hid hF0
  clear hO2 hK2 hT hf hlen2 hF0
  refine (of_n w2.heap.size 0 1 c1 (w2.heap.size) N (some ⟨g, 0, none⟩) l2 _ HL2.out (by omega) ?_ ?_ f (by rw [HT.out, HF.out])).mono ?_
  · exact (Blk.new _ _ _).cell 0
  · exact HO2.out.bs.alloc (Nat.le_refl _) _
  rintro e w' ⟨rfl, rfl⟩
  by_cases hz : f = 0
  · subst hz
    go_wp2_with fail
    refine (awake_any _).mono ?_
    rintro e w' ⟨rfl, hb'⟩
    go_wp2_with fail
    go_ret
    exact ⟨rfl, ((HK2.out.alloc _).then (Kept.of_below (S := fun i => w.heap.size ≤ i) hb' (fun i _ h => by simp at h; omega)) (fun i _ h => h)).below (Nat.le_refl _) (fun i h => h)⟩
  · have hne : ((65535 - f : Int) == 65535) = false := beq_eq_false_iff_ne.2 (by omega)
    have HZ := Lib.hid hz
    clear hz
    -- the word
    have hkL : k < l2.length := by have := HL2.out; omega
    have hkL1 : k + 1 < l2.length := by have := HL2.out; omega
    obtain ⟨c, hcc⟩ : ∃ c : Int, (l2[k].toNat : Int) = c := ⟨_, rfl⟩
    obtain ⟨d', hdd⟩ : ∃ d : Int, (l2[k + 1].toNat : Int) = d := ⟨_, rfl⟩
    have p1 := byte_le l2[k]
    have q1 := byte_le l2[k + 1]
    have ck := HO2.out.cell hkL
    have ck1 := HO2.out.cell hkL1
    rw [hcc] at ck p1
    rw [hdd] at ck1 q1
    have p0 : 0 ≤ c := by omega
    have q0 : 0 ≤ d' := by omega
    have hor := u16_join c d' p0 p1 q0 q1
    have fz := HO2.out.frozen
    have HCC := Lib.hid hcc
    have HDD := Lib.hid hdd
    have w16 : IntKind.u16.wrap (c * 256) = c * 256 := IntWalk.u16_in _ (by omega)
    have w64 : IntKind.i64.wrap ((k : Int) + 1) = (k : Int) + 1 := IntWalk.i64_in _ (by omega)
    have kN : (k : Int) < (N : Int) := by omega
    have kN1 : (k : Int) + 1 < (N : Int) := by omega
    have kt : ((k : Int) + 1).toNat = k + 1 := by omega
    clear hcc hdd
    have hU := fun W => update_any (65535 - f) (c * 256 + d') now W (by omega) (by omega) (by omega) (by omega) n0 n1
    have hur := updI_range (65535 - f) (c * 256 + d') now
    obtain ⟨t, ht⟩ : ∃ t, updI (65535 - f) (c * 256 + d') now = t := ⟨_, rfl⟩
    simp only [ht] at hU
    rw [ht] at hur
    obtain ⟨t0, t1⟩ := hur
    have HU := Lib.hid hU
    have HTT := Lib.hid ht
    clear hU ht
    obtain ⟨hi, ehi⟩ := byte_of (now / 256) (by omega) (by omega)
    obtain ⟨lo, elo⟩ := byte_of (now % 256) (by omega) (by omega)
    obtain ⟨th, eth⟩ := byte_of (t / 256) (by omega) (by omega)
    obtain ⟨tl, etl⟩ := byte_of (t % 256) (by omega) (by omega)
    have hws := way_sums l2 k q HKQ.out hkL1 T c d' HT.out HCC.out HDD.out Z0.out Z1.out hi lo th tl
    rw [← ehi, ← elo, ← eth, ← etl] at hws
    have hsm : now / 256 * 256 + now % 256 = now := by omega
    have htm : t / 256 * 256 + t % 256 = t := by omega
    rw [hsm, htm] at hws
    have WS1 := Lib.hid hws.1
    have WS2 := Lib.hid hws.2
    have v1 : IntKind.u8.wrap (now / 256) = (hi.toNat : Int) := by rw [← ehi]; exact IntWalk.u8_in _ (by omega)
    have v2 : IntKind.u8.wrap now = (lo.toNat : Int) := by rw [← elo, IntKind.wrap_u8]
    have v3 : IntKind.u8.wrap (t / 256) = (th.toNat : Int) := by rw [← eth]; exact IntWalk.u8_in _ (by omega)
    have v4 : IntKind.u8.wrap t = (tl.toNat : Int) := by rw [← etl, IntKind.wrap_u8]
    have EHI := Lib.hid ehi
    have ELO := Lib.hid elo
    have ETH := Lib.hid eth
    have ETL := Lib.hid etl
    have lg := hglt
    clear hws hsm htm eth etl
    go_wp2_with fail
    go_quiet (fail)
    go_wp2_with fail
    refine (HU.out _).mono ?_
    rintro e w' ⟨rfl, rfl⟩
    go_wp2_with fail
    have hO3 : Own ((((w2.alloc (.cells #[.slice (some ⟨g, 0, none⟩) N c1] 22)).drewN nq).setCell ⟨g, k, none⟩ (.int .u8 (hi.toNat : Int))).setCell ⟨g, k + 1, none⟩ (.int .u8 (lo.toNat : Int))) 5 g c1 ((l2.set k hi).set (k + 1) lo) := (((HO2.out.alloc _).drewN _).set k hi).set (k + 1) lo
    have hK3 : Kept (fun i => w.heap.size ≤ i) w ((((w2.alloc (.cells #[.slice (some ⟨g, 0, none⟩) N c1] 22)).drewN nq).setCell ⟨g, k, none⟩ (.int .u8 (hi.toNat : Int))).setCell ⟨g, k + 1, none⟩ (.int .u8 (lo.toNat : Int))) := (((HK2.out.alloc _).drewN _).setIn hg0).setIn hg0
    generalize ((((w2.alloc (.cells #[.slice (some ⟨g, 0, none⟩) N c1] 22)).drewN nq).setCell ⟨g, k, none⟩ (.int .u8 (hi.toNat : Int))).setCell ⟨g, k + 1, none⟩ (.int .u8 (lo.toNat : Int))) = w3 at hO3 hK3 ⊢
    obtain ⟨l3, hl3⟩ : ∃ l3, (l2.set k hi).set (k + 1) lo = l3 := ⟨_, rfl⟩
    have hlen3 : l3.length = N := by rw [← hl3]; simp [HL2.out]
    have ws1 := WS1.out
    have ws2 := WS2.out
    rw [hl3] at hO3 ws1 ws2
    have HL3 := Lib.hid hlen3
    have HO3 := Lib.hid hO3
    have HK3 := Lib.hid hK3
    have hs3 := hK3.size
    have hg3 := hO3.lt
    obtain ⟨y0, c0⟩ : ∃ y0 : Int, w3.cell? ⟨g, 0, none⟩ = some (.int .u8 y0) := ⟨_, hO3.cell (i := 0) (by omega)⟩
    obtain ⟨y1, c1'⟩ : ∃ y1 : Int, w3.cell? ⟨g, 1, none⟩ = some (.int .u8 y1) := ⟨_, hO3.cell (i := 1) (by omega)⟩
    have fz3 := hO3.frozen
    have hT0 : T ≠ 0 := fun h => HZ.out (HF0.out.2 h)
    obtain ⟨f3, hf3⟩ : ∃ f3, norm (T - (c * 256 + d') + now) = f3 := ⟨_, rfl⟩
    have hF3 := norm_zero (T - (c * 256 + d') + now)
    rw [hf3] at hF3
    have hfr3 := norm_range (T - (c * 256 + d') + now)
    rw [hf3] at hfr3
    have hT3n := total_nonneg true l3
    rw [ws1] at hT3n
    obtain ⟨f30, f31⟩ := hfr3
    have HF3 := Lib.hid hf3
    have HF3' := Lib.hid hF3
    have HW1 := Lib.hid ws1
    have HW2 := Lib.hid ws2
    have HT0 := Lib.hid hT0
    clear hO3 hK3 hl3 hlen3 ws1 ws2 WS1 WS2 ck ck1 fz hf3 hF3 hT0 hor w16 HO2 HK2
    refine (refOf_n c1 w3.heap.size N (some ⟨g, 0, none⟩) l3 (N / 2) HL3.out HM2.out _ (by omega) HO3.out.bs f3 (by rw [HW1.out, HF3.out])).mono ?_
    rintro e w' ⟨rfl, rfl⟩
    by_cases hz : f3 = 0
    · subst hz
      go_wp2_with fail
      refine (awake_any _).mono ?_
      rintro e w' ⟨rfl, hb'⟩
      go_wp2_with fail
      go_ret
      exact ⟨rfl, (HK3.out.then (Kept.of_below (S := fun i => w.heap.size ≤ i) hb' (fun i _ h => by omega)) (fun i _ h => h)).below (Nat.le_refl _) (fun i h => h)⟩
    · have hne3 : ((65535 - f3 : Int) == 65535) = false := beq_eq_false_iff_ne.2 (by omega)
      have HZ3 := Lib.hid hz
      clear hz
      go_wp2_with fail
      have hO4 : Own ((w3.setCell ⟨g, 0, none⟩ (.int .u8 (th.toNat : Int))).setCell ⟨g, 1, none⟩ (.int .u8 (tl.toNat : Int))) 5 g c1 ((l3.set 0 th).set 1 tl) := (HO3.out.set 0 th).set 1 tl
      have hK4 : Kept (fun i => w.heap.size ≤ i) w ((w3.setCell ⟨g, 0, none⟩ (.int .u8 (th.toNat : Int))).setCell ⟨g, 1, none⟩ (.int .u8 (tl.toNat : Int))) := (HK3.out.setIn hg0).setIn hg0
      generalize hw4 : (w3.setCell ⟨g, 0, none⟩ (.int .u8 (th.toNat : Int))).setCell ⟨g, 1, none⟩ (.int .u8 (tl.toNat : Int)) = w4 at hO4 hK4 ⊢
      have hsz4 : w3.heap.size = w4.heap.size := by rw [← hw4]; simp [World.setCell]
      rw [hsz4]
      rw [hsz4] at hs3
      clear hw4 hsz4
      refine (right_n w4.heap.size 0 1 c1 w4.heap.size N (some ⟨g, 0, none⟩) ((l3.set 0 th).set 1 tl) _ (by simp [HL3.out]) (by omega) ?_ ?_ ?_).mono ?_
      · exact (Blk.new _ _ _).cell 0
      · exact hO4.bs.alloc (Nat.le_refl _) _
      · rw [HW2.out, ← HTT.out, ← HF.out]
        have h3 : T - (c * 256 + d') + now ≠ 0 := fun h => HZ3.out (HF3'.out.2 h)
        have hT0 := HT0.out
        exact keeps_plain T (c * 256 + d') now (by omega) (by omega) (by omega) n0 n1 (by omega)
      rintro e w' ⟨rfl, rfl⟩
      go_wp2_with fail
      refine (awake_any _).mono ?_
      rintro e w' ⟨rfl, hb'⟩
      go_wp2_with fail
      go_ret
      exact ⟨rfl, ((hK4.alloc _).then (Kept.of_below (S := fun i => w.heap.size ≤ i) hb' (fun i _ h => by simp at h; omega)) (fun i _ h => h)).below (Nat.le_refl _) (fun i h => h)⟩

theorem sumKeeps_l (x now : Int) (A : Option Addr) (cap : Nat) (l : List UInt8) (w : World) (x0 : 0 ≤ x) (x1 : x ≤ 65535) (n0 : 0 ≤ now) (n1 : now ≤ 65535) (hl : l.length ≤ maxLen) (hcap : l.length ≤ cap) (hc : BS w w.heap.size A l) :
    Calls Try.prog 3 #[.slice A l.length cap, .int .u16 x, .int .u16 now] w fun e w' => e = .returned (.bool true) ∧ Below w.heap.size w w' := by
  unfold maxLen at hl
  by_cases h : 2000 < l.length ∨ l.length < 4
  · exact sumKeeps_far x now A _ cap w h hl
  · obtain ⟨b, off, hb, rfl, hc2⟩ := hc.at (k := 0) (by omega)
    exact sumKeeps_any x now b off cap l w x0 x1 n0 n1 (by omega) (by omega) hcap hb hc2
end Go.Proofs.Yteoikfjjlpcicaa
