/- The iterator of File.All. -/
import Derived.Test.YtohimionlgaaoaaI
import Derived.Test.YtohimionlgaaoaaG
import Derived.Test.YtohimionlgaaoaaRange
import Derived.RangeFuncBound
import Derived.RangeFuncLeaves
import Derived.Shelf.Abstract
import Derived.Shelf.RegionOpen
import Derived.WalkKit
import Derived.OwnWalkIn
import Derived.TacticsInMore
import Derived.LoopNIn
import Derived.LoopIn
namespace Go.Proofs.Ytohimionlgaaoaa
open Go.RowKit
set_option linter.unusedVariables false
attribute [local go_sem] Oper.semAt_some
theorem roundAny {m m' : Nat} {P : Program} {l : Nat} {f : FuncId} {tmps : Array Value} {assign body : Code} {w : World} {R : Ending → World → Prop}
    (h : RoundIn Fence.wide m P l f tmps assign body w R) : RoundIn Fence.wide m' P l f tmps assign body w R := ⟨h.1, fun c cs _ => h.2 c cs (fun d e => by cases e)⟩
theorem yieldAny {m : Nat} (m' : Nat) {P : Program} {l : Nat} {args : Array Value} {W : World} {R : Ending → World → Prop} (h : YieldAt Fence.wide m P l args W R) : YieldAt Fence.wide m' P l args W R := by
  obtain ⟨fn, tmps, assign, body, hy, hR⟩ := h
  exact ⟨fn, tmps, assign, body, hy, roundAny hR⟩
def lenV : Value → Nat
  | .slice _ n _ => n
  | _ => 0
/-- The blocks that the iterator reads. -/
def ItM (ob fb : Nat) (v : Value) (i : Nat) : Prop := i = ob ∨ i = fb ∨ v.ownBlock = some i
/-- What is known of a packet that is yielded. -/
def ItK (B : Nat) (x : Pk) (args : Array Value) (v : World) : Prop := ∃ DA dc, args = #[.agg #[.int .u32 x.se, .int .u32 x.pa, .int .u32 x.pl, .slice DA x.dl.length dc]] ∧ Row v B 5 (.slice DA x.dl.length dc) (bcs x.dl)
set_option maxRecDepth 100000 in
set_option maxHeartbeats 8000000 in
theorem all1_iter (sm na : Bool) (mo li : Int) (ob fb : Nat) (A : Option Addr) (c B : Nat) (b : List UInt8) (w : World) (hmo : 0 ≤ mo ∧ mo ≤ 4294967295) (hli : 0 ≤ li ∧ li ≤ 4294967295) (hl : b.length ≤ 100000)
    (hO : Blk w ob 25 #[.slice A b.length c]) (hF : Blk w fb 29 #[.bool sm, .bool na, .int .u32 mo, .int .u32 li]) (hR : Row w B 5 (.slice A b.length c) (bcs b)) :
    Iter Try.prog 38 #[.pointer (some ⟨ob, 0, none⟩), .pointer (some ⟨fb, 0, none⟩)] (ItK w.heap.size) (ItM ob fb (.slice A b.length c)) (alls sm na mo b).1 w := by
  intro l J Jx u hku hJ hJx hY h0
  refine callsIn_wide.2 ((callsIn_wide (n := 3)).1 ?_)
  have HO := Lib.hid (fun v (hk : Kept (fun i => ¬ ItM ob fb (.slice A b.length c) i) w v) => hO.kept hk (fun h => h (.inl rfl)))
  have HF := Lib.hid (fun v (hk : Kept (fun i => ¬ ItM ob fb (.slice A b.length c) i) w v) => hF.kept hk (fun h => h (.inr (.inl rfl))))
  have HR := Lib.hid (fun v (hk : Kept (fun i => ¬ ItM ob fb (.slice A b.length c) i) w v) => (hR.kept hk (fun g hg h => h (.inr (.inr hg)))).byt)
  have HML := Lib.hid (show ∀ i, ItM ob fb (.slice A b.length c) i → i < w.heap.size from fun i h => by
    rcases h with rfl | rfl | h
    · exact hO.lt
    · exact hF.lt
    · exact (hR.lt i h).2)
  have HJ := Lib.hid hJ
  have HJX := Lib.hid hJx
  have HY := Lib.hid hY
  have HKU := Lib.hid hku
  have H0 := Lib.hid h0
  have MO := Lib.hid hmo
  have LI := Lib.hid hli
  have cO := (HO.out u hku).cell
  clear hO hF hR hJ hJx hY hku h0 hmo hli
  refine callsIn_of_wp Try.func38 rfl trivial ?_ rfl
  simp only [Try.ntmps38, List.size_toArray, List.length_cons, List.length_nil, Nat.reduceAdd, Nat.reduceSub, Array.replicate_succ, Array.replicate_zero, List.push_toArray, List.append_toArray, List.nil_append, List.cons_append]
  gi_wp2
  gi_loopw [4] (fun rv wr => ∃ (at_ : Nat) (pre : List Pk) (RA : Option Addr) (rc : Nat), at_ ≤ b.length ∧ rv = .slice RA (b.drop at_).length rc ∧ Hid ((b.drop at_).length ≤ rc ∧ rc ≤ maxLen ∧ ∀ v, Kept (fun i => ¬ ItM ob fb (.slice A b.length c) i) w v → BS v v.heap.size RA (b.drop at_)) ∧ Hid (pre ++ (alls sm na mo (b.drop at_)).1 = (alls sm na mo b).1) ∧ Hid (J pre wr) ∧ Hid (Kept (fun i => ¬ ItM ob fb (.slice A b.length c) i) w wr)) (fun rv _ => lenV rv)
  case atStart =>
    obtain ⟨A', c', e, h1, h2, -⟩ := HR.out w (Kept.refl _ _)
    cases e
    exact ⟨0, [], A, c, Nat.zero_le _, rfl, Lib.hid ⟨h1, h2, fun v hk => by obtain ⟨A', c', e, _, _, h⟩ := HR.out v hk; cases e; exact h⟩, Lib.hid rfl, H0, HKU⟩
  case round =>
    obtain ⟨at_, pre, RA, rc, hat, rfl, HB, HX, HJP, HK⟩ := hrel
    have cf := (HF.out wr HK.out).cell
    obtain ⟨x, hx⟩ : ∃ x, b.drop at_ = x := ⟨_, rfl⟩
    have hxl : x.length ≤ b.length - at_ := by rw [← hx]; simp
    have HXS := Lib.hid hx
    rw [hx] at HB HX ⊢
    clear hx
    have HFI := Lib.hid (first_any sm na mo li RA rc x wr MO.out LI.out (by omega) HB.out.1 HB.out.2.1 (HB.out.2.2 wr HK.out))
    gi_wp2
    refine ⟨trivial, (callsIn_wide.2 HFI.out).mono ?_⟩
    rintro e w2 ⟨hp, hb2⟩
    have HK2 := Lib.hid (show Kept (fun i => ¬ ItM ob fb (.slice A b.length c) i) w w2 from HK.out.trans (Kept.of_below hb2 (fun i h1 h2 => by omega)))
    have HJ2 := Lib.hid (HJ.out _ _ _ HJP.out (Kept.quietly hb2))
    have hb2_ := hb2
    clear hb2 cf
    rcases hp with ⟨hok, DA, dc, rfl, hd1, hd2, hdb⟩ | ⟨hno, rfl⟩
    · have HOK := Lib.hid hok
      obtain ⟨sz, hsz⟩ : ∃ sz, szP sm x = sz := ⟨_, rfl⟩
      obtain ⟨se, hse⟩ : ∃ se, ofL sm (x.take 4) = se := ⟨_, rfl⟩
      obtain ⟨pa, hpa⟩ : ∃ pa, ofL sm ((x.drop 4).take 4) = pa := ⟨_, rfl⟩
      obtain ⟨pl, hpl⟩ : ∃ pl, ofL sm ((x.drop 12).take 4) = pl := ⟨_, rfl⟩
      have h5 := hok.2.1
      rw [hsz] at hd1 hdb h5 ⊢
      rw [hse, hpa, hpl]
      obtain ⟨y, hy⟩ : ∃ y, (x.drop 16).take sz = y := ⟨_, rfl⟩
      have hyl : y.length = sz := by rw [← hy, List.length_take, List.length_drop]; omega
      rw [hy] at hdb
      have HPK := Lib.hid (show pkOf sm x = ⟨se, pa, pl, y⟩ by unfold pkOf; rw [hsz, hse, hpa, hpl, hy])
      have HSZ := Lib.hid hsz
      have HYL := Lib.hid hyl
      have HDB := Lib.hid (show BS w2 w2.heap.size DA y from hdb.onB hb2_ (Nat.le_refl _))
      have sz0 : (0 : Int) ≤ (sz : Int) := Int.natCast_nonneg _
      have sz1 : (sz : Int) ≤ 100000 := by omega
      have hz := slClone_any DA dc y
      rw [hyl] at hz
      have HCL := Lib.hid hz
      clear hok hse hpa hpl hy hyl hdb hz hsz
      gi_wp2
      have hcl := HCL.out (w2.alloc (.cells #[.int .u32 se, .int .u32 pa, .int .u32 pl, .slice DA sz dc] 34)) (by omega) (HDB.out.onB ((Below.refl w2.heap.size w2).alloc (Nat.le_refl _) _) (Nat.le_refl _))
      refine ⟨trivial, (callsIn_wide.2 hcl).mono ?_⟩
      clear hcl
      rintro e w4 ⟨v, rfl, hv, hb4⟩
      obtain ⟨CA, cc, rfl, hc1, hc2⟩ := hv.shape
      have hvl : (bcs y).length = y.length := by simp [bcs]
      rw [hvl, HYL.out] at hv hc1 ⊢
      have hB4 : Blk w4 w2.heap.size 34 #[.int .u32 se, .int .u32 pa, .int .u32 pl, .slice DA sz dc] := (Blk.new w2 _ _).below hb4 (by simp)
      have c4 := hB4.cell
      have f4 := hB4.frozen
      obtain ⟨w5, hw5⟩ : ∃ w5, w4.setCell ⟨w2.heap.size, 3, none⟩ (.slice CA sz cc) = w5 := ⟨_, rfl⟩
      have hB5 : Blk w5 w2.heap.size 34 #[.int .u32 se, .int .u32 pa, .int .u32 pl, .slice CA sz cc] := by rw [← hw5]; exact hB4.set_to rfl
      have hk5 : Kept (fun _ => False) w2 w5 := by
        rw [← hw5]
        exact (((Kept.refl _ w2).alloc _).trans (Kept.quietly hb4)).setNew (Nat.le_refl _)
      have hr5 : Row w5 w2.heap.size 5 (.slice CA sz cc) (bcs y) := by
        rw [← hw5]
        exact (hv.far fun h => by have := hv.lt _ h; simp at this; omega).more (by simp)
      have hkk : Kept (fun i => ¬ ItM ob fb (.slice A b.length c) i) w w5 := HK2.out.then hk5 (fun _ _ e => e.elim)
      obtain ⟨fn, tmps, assign, body, hy, hR⟩ := yieldAny 2 (HY.out pre ⟨se, pa, pl, y⟩ (alls sm na mo (x.drop (16 + sz))).1 #[.agg #[.int .u32 se, .int .u32 pa, .int .u32 pl, .slice CA sz cc]] w5
        (by rw [← HX.out, alls_yes sm na mo x HOK.out, HPK.out, HSZ.out]) (HJ.out _ _ _ HJ2.out hk5) ⟨CA, cc, by rw [HYL.out], by rw [HYL.out]; exact hr5.more HK2.out.size⟩)
      have HR5 := Lib.hid hR
      have HKK := Lib.hid hkk
      have HK5 := Lib.hid hk5
      have c5 := hB5.cell
      clear hR hkk hk5 hr5 hv hb4
      obtain ⟨RB, roff, -, hRA, -⟩ := (HB.out.2.2 wr HK.out).at (k := 0) (by omega)
      subst hRA
      gi_wp2
      refine HR5.out.mono ?_
      rintro e w6 (⟨rfl, hJ6, hk6⟩ | ⟨rfl, hx6⟩)
      · have HJ6 := Lib.hid hJ6
        have HK6 := Lib.hid (HKK.out.trans hk6)
        clear hJ6 hk6 HR5 hy
        have hz1 := HB.out.1
        have hz2 := HB.out.2.1
        gi_wp2
        have hd : b.drop (at_ + (16 + sz)) = x.drop (16 + sz) := by rw [← HXS.out, List.drop_drop]
        refine ⟨⟨at_ + (16 + sz), pre ++ [⟨se, pa, pl, y⟩], _, _, by omega, by rw [hd, List.length_drop], Lib.hid ⟨by rw [hd, List.length_drop]; omega, by omega, fun v hk => ?_⟩, Lib.hid ?_, HJ6, HK6⟩, ?_⟩
        · rw [hd]
          have hb := HB.out.2.2 v hk
          split
          · rw [List.drop_eq_nil_of_le (by omega)]; exact BS.nil
          · exact hb.drop_ _
        · rw [hd, ← HX.out, alls_yes sm na mo x HOK.out, HPK.out, HSZ.out, List.append_assoc]
          rfl
        · simp only [lenV]
          omega
      · clear HR5 hy
        gi_wp2
        refine bodyPost_ret (results_none rfl _ _ _) rfl ?_
        exact ⟨⟨_, rfl⟩, .inr ⟨_, hx6⟩⟩
    · gi_wp2
      refine bodyPost_ret (results_none rfl _ _ _) rfl ?_
      refine ⟨⟨_, rfl⟩, .inl ?_⟩
      have hp := HX.out
      rw [alls_no _ _ _ _ hno, List.append_nil] at hp
      rw [← hp]
      exact HJ.out _ _ _ HJ2.out ((Kept.refl _ w2).alloc _)
end Go.Proofs.Ytohimionlgaaoaa
