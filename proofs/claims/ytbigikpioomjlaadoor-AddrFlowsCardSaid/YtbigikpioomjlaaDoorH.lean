/- Back of a flow. -/
import Derived.Test.YtbigikpioomjlaaDoorG
namespace Go.Proofs.YtbigikpioomjlaaDoor
open Go.RowKit
set_option linter.unusedVariables false
def Fl.cs (f : Fl) : Array Value := #[.bool f.src.six, .int .u64 f.src.high, .int .u64 f.src.low, .bool f.dst.six, .int .u64 f.dst.high, .int .u64 f.dst.low, .int .u16 f.sp, .int .u16 f.dp, .int .u8 f.pr]
def Fl.back (f : Fl) : Fl := ⟨f.dst, f.src, f.dp, f.sp, f.pr⟩
set_option maxHeartbeats 4000000 in
theorem back_any (s : Bool) (h l : Int) (s' : Bool) (h' l' p q r : Int) (w : World) : Calls Tryd.prog 7 #[.agg #[.bool s, .int .u64 h, .int .u64 l, .bool s', .int .u64 h', .int .u64 l', .int .u16 p, .int .u16 q, .int .u8 r]] w fun e w' => e = .returned (.agg #[.bool s', .int .u64 h', .int .u64 l', .bool s, .int .u64 h, .int .u64 l, .int .u16 q, .int .u16 p, .int .u8 r]) ∧ Below w.heap.size w w' := by
  go_enter Tryd.func7, Tryd.ntmps7
  go_wp2_with fail
  refine bodyPost_ret (results_blk1 (P := Tryd.prog) (show Tryd.f7.results = _ from rfl) _ _ (w.heap.size + 1) 27 #[.bool s', .int .u64 h', .int .u64 l', .bool s, .int .u64 h, .int .u64 l, .int .u16 q, .int .u16 p, .int .u8 r] _ rfl ?_ Tryd.underlying27 rfl (by kernel_rfl)) rfl ⟨rfl, ?_⟩
  · exact Blk.new_ (by simp) _ _
  · exact ((Below.refl _ _).alloc (Nat.le_refl _) _).alloc (by simp) _
theorem backF_any (f : Fl) (w : World) : Calls Tryd.prog 7 #[.agg f.cs] w fun e w' => e = .returned (.agg f.back.cs) ∧ Below w.heap.size w w' := back_any _ _ _ _ _ _ _ _ _ w
/-! ### Keys -/
theorem digs_inj : ∀ (k : Nat) (M N : Int), 0 ≤ M → 0 ≤ N → M < 256 ^ k → N < 256 ^ k → digs k M = digs k N → M = N
  | 0, M, N, m0, n0, m1, n1, _ => by simp at m1 n1; omega
  | k + 1, M, N, m0, n0, m1, n1, e => by
    have e' : digs k (M / 256) ++ [b8 M] = digs k (N / 256) ++ [b8 N] := e
    obtain ⟨h1, h2⟩ := List.append_inj e' (by rw [digs_length, digs_length])
    have h3 : b8 M = b8 N := by simpa using h2
    have h4 := congrArg (fun b : UInt8 => (b.toNat : Int)) h3
    simp only [b8_val] at h4
    have p : (256 : Int) ^ (k + 1) = 256 ^ k * 256 := Int.pow_succ 256 k
    rw [p] at m1 n1
    have := digs_inj k (M / 256) (N / 256) (by omega) (by omega) (by omega) (by omega) h1
    omega
theorem Ad.bs_inj {a b : Ad} (ha : a.wf) (hb : b.wf) (ra : a.okB = true) (rb : b.okB = true) (hs : a.six = b.six) (h : a.bs = b.bs) : a = b := by
  obtain ⟨s, h1, l1⟩ := a
  obtain ⟨s', h2, l2⟩ := b
  obtain ⟨a1, a2, a3, a4⟩ := ha
  obtain ⟨b1, b2, b3, b4⟩ := hb
  simp only at hs a1 a2 a3 a4 b1 b2 b3 b4
  subst hs
  cases s with
  | true =>
    have h' : digs 8 h1 ++ digs 8 l1 = digs 8 h2 ++ digs 8 l2 := h
    obtain ⟨e1, e2⟩ := List.append_inj h' (by rw [digs_length, digs_length])
    rw [digs_inj 8 h1 h2 a1 b1 (by simpa using a2) (by simpa using b2) e1, digs_inj 8 l1 l2 a3 b3 (by simpa using a4) (by simpa using b4) e2]
  | false =>
    have h' : digs 4 l1 = digs 4 l2 := h
    simp [Ad.okB] at ra rb
    rw [ra.1, rb.1, digs_inj 4 l1 l2 a3 b3 (by have := ra.2; simp; omega) (by have := rb.2; simp; omega) h']
theorem Ad.bs_same {a b : Ad} (hs : a.six = b.six) : a.bs.length = b.bs.length := by
  unfold Ad.bs; rw [hs]; split <;> simp [digs_length]
theorem Fl.key_inj {f g : Fl} (hf : f.wf) (hg : g.wf) (r1 : f.src.okB = true) (r2 : f.dst.okB = true) (r3 : g.src.okB = true) (r4 : g.dst.okB = true) (e1 : f.src.six = g.src.six) (e2 : f.dst.six = g.dst.six) (h : f.key = g.key) : f = g := by
  obtain ⟨sa, da, sp, dp, pr⟩ := f
  obtain ⟨sb, db, sq, dq, pq⟩ := g
  obtain ⟨w1, w2, w3, w4, w5, w6, w7, w8⟩ := hf
  obtain ⟨v1, v2, v3, v4, v5, v6, v7, v8⟩ := hg
  have h' : sa.bs ++ (da.bs ++ (digs 2 sp ++ (digs 2 dp ++ digs 1 pr))) = sb.bs ++ (db.bs ++ (digs 2 sq ++ (digs 2 dq ++ digs 1 pq))) := h
  obtain ⟨q1, h'⟩ := List.append_inj h' (Ad.bs_same e1)
  obtain ⟨q2, h'⟩ := List.append_inj h' (Ad.bs_same e2)
  obtain ⟨q3, h'⟩ := List.append_inj h' (by rw [digs_length, digs_length])
  obtain ⟨q4, q5⟩ := List.append_inj h' (by rw [digs_length, digs_length])
  have x1 : sa = sb := Ad.bs_inj w1 v1 r1 r3 e1 q1
  have x2 : da = db := Ad.bs_inj w2 v2 r2 r4 e2 q2
  have x3 : sp = sq := digs_inj 2 sp sq w3 v3 (by simpa using w4) (by simpa using v4) q3
  have x4 : dp = dq := digs_inj 2 dp dq w5 v5 (by simpa using w6) (by simpa using v6) q4
  have x5 : pr = pq := digs_inj 1 pr pq w7 v7 (by simpa using w8) (by simpa using v8) q5
  rw [x1, x2, x3, x4, x5]
end Go.Proofs.YtbigikpioomjlaaDoor
