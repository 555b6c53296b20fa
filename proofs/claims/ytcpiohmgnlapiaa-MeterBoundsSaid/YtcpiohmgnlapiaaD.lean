import Derived.Test.YtcpiohmgnlapiaaRows
import Derived.Test.YtcpiohmgnlapiaaC
import Derived.Test.YtcpiohmgnlapiaaPlainB
import Derived.Deep.AppendLies
import Derived.Deep.LoopGhost
import Derived.Deep.DeepCutAuto
import Derived.OwnWalk
import Derived.Outline
import Derived.Deep.Light
import Derived.StillTailTactics
import Derived.Deep.QuietTactic
import Derived.BigQuiet
namespace Go.Proofs.Ytcpiohmgnlapiaa
open Go.RowKit
set_option linter.unusedVariables false


theorem Try.info29 : (Try.prog.info? 29).map (fun i => (i.zero, i.size, i.bytes)) = some (some (.int .u64 0), 1, 8) := by kernel_rfl
/-- Numbers as cells. -/
def us (l : List Int) : List Value := l.map (Value.int .u64)
theorem us_snoc (l : List Int) (x : Int) : us (l ++ [x]) = us l ++ [.int .u64 x] := by simp [us]
/-- The rows of times and of what was taken, the bucket, and how they hang together. -/
structure BRel (w wr : World) (bb : Nat) (r s lv t : Int) (a b : Value) (tms tks : List Int) : Prop where
  bnd : Bnd r s lv t tms tks
  bkt : Blk wr bb 55 #[.int .u64 r, .int .u64 s, .int .u64 lv, .int .u64 t]
  ra : wr.ownsRow w.heap.size 29 1 a tms.length (us tms)
  rb : wr.ownsRow w.heap.size 29 1 b tks.length (us tks)
  ap : a.ownBlock = none ∨ a.ownBlock ≠ b.ownBlock
  kp : Kept (fun i => w.heap.size ≤ i) w wr
theorem own_ne {w : World} {base e size n g t : Nat} {v : Value} {xs : List Value} {cs : Array Value} (h : w.ownsRow base e size v n xs) (hg : Blk w g t cs) (hne : e ≠ t) : v.ownBlock ≠ some g := by
  intro he
  rcases h.2 with ⟨rfl, _⟩ | ⟨g', cap, cur, rfl, _, hh, _⟩
  · simp [Value.ownBlock] at he
  · obtain rfl : g' = g := by simpa [Value.ownBlock] using he
    exact Blk.ne_ (t := e) hh hg hne rfl
theorem row_shape {w : World} {base e size n : Nat} {v : Value} {xs : List Value} (h : w.ownsRow base e size v n xs) : ∃ A c, v = .slice A n c := by
  rcases h.2 with ⟨rfl, rfl⟩ | ⟨g, cap, cur, rfl, _⟩
  · exact ⟨_, _, rfl⟩
  · exact ⟨_, _, rfl⟩
theorem news_one {w : World} {g : Nat} {x : Value} (h : Blk w g 29 #[x]) : ∀ j u, [x][j]? = some u → w.cell? ((⟨g, 0, none⟩ : Addr).add j) = some u := by
  intro j u hu
  rw [Addr.add_lit, Nat.zero_add, h.cell j]
  simpa using hu
theorem ap_sym {w : World} {base n : Nat} {a b : Value} {xs : List Value} (h : a.ownBlock = none ∨ a.ownBlock ≠ b.ownBlock) (_hb : w.ownsRow base 29 1 b n xs) : b.ownBlock = none ∨ b.ownBlock ≠ a.ownBlock := by
  rcases h with h | h
  · by_cases hb : b.ownBlock = none
    · exact .inl hb
    · exact .inr (by rw [h]; exact hb)
  · exact .inr (Ne.symm h)
theorem row_at {w : World} {base n : Nat} {v : Value} {l : List Int} (h : w.ownsRow base 29 1 v n (us l)) {k : Nat} (hk : k < l.length) : ∃ g c, v = .slice (some ⟨g, 0, none⟩) n c ∧ n = l.length ∧ g < w.heap.size ∧ w.cell? ⟨g, k, none⟩ = some (.int .u64 l[k]) := by
  have hn : n = l.length := by have := h.1; simp [us] at this; omega
  obtain ⟨g, c, rfl, _, hlt⟩ := h.form (by omega)
  refine ⟨g, c, rfl, hn, hlt, ?_⟩
  rw [h.cellAt k (by omega)]
  simp [us, hk]

set_option maxRecDepth 100000 in
set_option maxHeartbeats 8000000 in
theorem bounds_any (r sz : Int) (A : Option Addr) (cap : Nat) (l : List Act) (w : World) (r0 : 0 ≤ r) (r1 : r ≤ 65535) (z0 : 0 ≤ sz) (z1 : sz ≤ 65535) (hl : l.length ≤ 9223372036854775807) (hc : Acts w w.heap.size A l) :
    Calls Try.prog 3 #[.int .u16 r, .int .u16 sz, .slice A l.length cap] w fun e w' => e = .returned (.bool true) ∧ Below w.heap.size w w' := by
  have HC := Lib.hid hc
  obtain ⟨i0, hi0, hz0, hz1, hz2⟩ := info_parts Try.info29
  clear hc
  go_enter Try.func3, Try.ntmps3
  go_wp2_with fail
  refine (awake_any _).mono ?_
  rintro e w1 ⟨rfl, hb1⟩
  have hs1 := hb1.size
  have HB1 := Lib.hid hb1
  clear hb1
  go_wp2_with fail
  refine (new_ok r (sz + 1) _ (by omega) (by omega) (by omega)).mono ?_
  rintro e w' ⟨rfl, rfl⟩
  go_wp2_with fail
  go_loopg [9, 10, 11, 12] 40 (fun g nw a b i wr => ∃ (k : Nat) (x lv t : Int) (tms tks : List Int), k ≤ l.length ∧ k + g = 40 ∧ i = .int .i64 k ∧ nw = .int .u64 x ∧ x ≤ 99999 ∧ 0 ≤ t ∧ t ≤ x ∧ 0 ≤ lv ∧ lv ≤ sz + 1 ∧ tms.length ≤ k ∧ BRel w wr w1.heap.size r (sz + 1) lv t a b tms tks)
  case atStart => exact ⟨0, 0, sz + 1, 0, [], [], by omega, by omega, rfl, rfl, by omega, by omega, by omega, by omega, by omega, by simp, ⟨Bnd.start _ _, Blk.new _ _ _, World.ownsRow_nil _ _ _ _, World.ownsRow_nil _ _ _ _, .inl rfl, (Kept.of_below HB1.out (fun i _ h => h)).alloc _⟩⟩
  case round =>
    obtain ⟨k, x, lv, t, tms, tks, hk, hgk, rfl, rfl, x1, t0, tx, l0, l1, hm, hR⟩ := hrel
    obtain ⟨Aa, ca, rfl⟩ := row_shape hR.ra
    obtain ⟨Ab, cb, rfl⟩ := row_shape hR.rb
    have HGK := Lib.hid hgk
    have HR := Lib.hid hR
    have HTK := Lib.hid hR.bnd.1
    have htk : tks.length ≤ 40 := by have := hR.bnd.1; omega
    have htm : tms.length ≤ 40 := by omega
    have hsw := hR.kp.size
    have hblt := hR.bkt.lt
    have HCW := Lib.hid (HC.out.keep (w' := wr) fun b o hb => hR.kp.cell hb (by omega) o)
    have hk40 : k ≤ 40 := by omega
    clear hgk hR
    by_cases hlt : k < l.length ∧ k < 40
    · obtain ⟨hlt, hlt40⟩ := hlt
      obtain ⟨b, off, hbB, rfl, hca⟩ := HCW.out.at hlt
      obtain ⟨-, c1, c2, n0, n1, m0, m1⟩ := hca k hlt
      have hbwr : b < wr.heap.size := by omega
      have kI : (k : Int) < (l.length : Int) := by omega
      have kN : (0 : Int) ≤ (k : Int) := by omega
      generalize hnn : l[k].n = n at c1 n0 n1
      generalize hnw : l[k].now = now at c2 m0 m1
      clear hnn hnw hca
      go_upto_region 11 with fail
      go_cut [9] (fun s9 wx => s9 = .int .u64 (max x (now % 100000)) ∧ wr = wx)
      case first =>
        by_cases hmx : x < now % 100000
        · have HM := Lib.hid (show now % 100000 = max x (now % 100000) by omega)
          go_wp2_with fail
          go_meet
          exact ⟨congrArg (Value.int .u64) HM.out, rfl⟩
        · have HM := Lib.hid (show x = max x (now % 100000) by omega)
          go_wp2_with fail
          go_meet
          exact ⟨congrArg (Value.int .u64) HM.out, rfl⟩
      case rest =>
        obtain ⟨rfl, rfl⟩ := hcut
        obtain ⟨X, hX⟩ : ∃ X, max x (now % 100000) = X := ⟨_, rfl⟩
        rw [hX]
        have X1 : X ≤ 99999 := by omega
        have X0 : 0 ≤ X := by omega
        have tX : t ≤ X := by omega
        obtain ⟨nn, hnn⟩ : ∃ nn, n % 100000 = nn := ⟨_, rfl⟩
        have nn0 : 0 ≤ nn := by omega
        have nn1 : nn ≤ 99999 := by omega
        have hfr := fillL_range (t := t) (now := X) r0 l0 l1
        obtain ⟨L, hL⟩ : ∃ L, fillL r (sz + 1) lv t X = L := ⟨_, rfl⟩
        rw [hL] at hfr
        obtain ⟨L0, L1⟩ := hfr
        have HL := Lib.hid hL
        have HT := Lib.hid (show fillT t X = X by unfold fillT; split <;> omega)
        have hbf := HR.out.bnd.fill (now := X) r0 tX
        rw [hL] at hbf
        have HBF := Lib.hid hbf
        clear hX hL hbf
        by_cases hn : nn ≤ L
        · go_wp2_with fail
          refine (take_yes w1.heap.size r (sz + 1) lv t X _ r0 (by omega) (by omega) l0 l1 t0 (by omega) X0 (by omega) HR.out.bkt nn L X nn0 HL.out HT.out hn).mono ?_
          rintro e w2 ⟨rfl, hB2, hK2⟩
          have hra2 := HR.out.ra.kept hK2.grown (.inr (own_ne HR.out.ra HR.out.bkt (by decide)))
          have hrb2 := HR.out.rb.kept hK2.grown (.inr (own_ne HR.out.rb HR.out.bkt (by decide)))
          have hs2 := hK2.size
          have HK2 := Lib.hid (HR.out.kp.then hK2 (fun i hi h => by omega))
          have HB2 := Lib.hid hB2
          have HRA2 := Lib.hid hra2
          have HRB2 := Lib.hid hrb2
          clear hB2 hK2 hra2 hrb2 c1 c2
          go_wp2_with (at_builtin; refine wpList_append_lies _ rfl (.tmp 61) (.tmp 63) 30 rfl w.heap.size 29 i0 (.int .u64 0) 1 8 Try.underlying30 hi0 hz0 hz1 hz2 rfl (by decide) _ tms.length (us tms) rfl (HRA2.out.alloc _) ⟨w2.heap.size, 0, none⟩ 1 1 [.int .u64 X] rfl rfl ?a1 ?a2 (by decide) ?a3 ?a4 ?a5 _ rfl ?_)
          case a1 => exact news_one (Blk.new _ _ _)
          case a2 => intro u hu; simp at hu; subst hu; rfl
          case a3 => unfold maxLen; omega
          case a4 => omega
          case a5 => simp; omega
          intro gA cA w3 hoA hgA hatA hltA
          have hsA := hgA.size
          simp only [World.size_alloc] at hsA
          have hoB := (HRB2.out.alloc (.cells #[.int .u64 X] 29)).kept hgA (ap_sym HR.out.ap HRB2.out)
          have hB3 := (HB2.out.alloc (.cells #[.int .u64 X] 29)).grown hgA (Ne.symm (own_ne HRA2.out HB2.out (by decide)))
          have hK3 := (HK2.out.alloc (.cells #[.int .u64 X] 29)).then (Kept.of_grown (S := fun i => w.heap.size ≤ i) hgA (fun i _ e => (HRA2.out.lt i e.symm).1)) (fun i _ h => h)
          have HOA := Lib.hid hoA
          have HOB := Lib.hid hoB
          have HB3 := Lib.hid hB3
          have HK3 := Lib.hid hK3
          have HAT := Lib.hid hatA
          clear hgA hoA hoB hB3 hK3 hatA
          go_wp2_with (at_builtin; refine wpList_append_lies _ rfl (.tmp 65) (.tmp 67) 30 rfl w.heap.size 29 i0 (.int .u64 0) 1 8 Try.underlying30 hi0 hz0 hz1 hz2 rfl (by decide) _ tks.length (us tks) rfl (HOB.out.alloc _) ⟨w3.heap.size, 0, none⟩ 1 1 [.int .u64 nn] rfl rfl ?b1 ?b2 (by decide) ?b3 ?b4 ?b5 _ rfl ?_)
          case b1 => exact news_one (Blk.new _ _ _)
          case b2 => intro u hu; simp at hu; subst hu; rfl
          case b3 => unfold maxLen; omega
          case b4 => omega
          case b5 => simp; omega
          intro gB cB w4 hoB hgB hatB hltB
          have hRX : BRel w w4 w1.heap.size r (sz + 1) (L - nn) X (.slice (some ⟨gA, 0, none⟩) (tms.length + 1) cA) (.slice (some ⟨gB, 0, none⟩) (tks.length + 1) cB) (tms ++ [X]) (tks ++ [nn]) := by
            have hsB := hgB.size
            simp only [World.size_alloc] at hsB
            have hAb : ∀ g, (Value.slice Ab tks.length cb).ownBlock = some g → g < w2.heap.size := fun g e => (HRB2.out.lt g e).2
            have hAa : ∀ g, (Value.slice Aa tms.length ca).ownBlock = some g → g < w2.heap.size := fun g e => (HRA2.out.lt g e).2
            have hne : some gA ≠ (Value.slice Ab tks.length cb).ownBlock := fun e => by
              have h1 := hAb gA e.symm
              rcases HAT.out with h | h
              · rcases HR.out.ap with h2 | h2
                · rw [h] at h2; cases h2
                · exact h2 (h.trans e)
              · omega
            refine ⟨HBF.out.take X0 nn0 nn1 hn L1, (HB3.out.alloc _).grown hgB (Ne.symm (own_ne (HOB.out) HB3.out (by decide))), ?_, ?_, ?_, (HK3.out.alloc _).then (Kept.of_grown (S := fun i => w.heap.size ≤ i) hgB (fun i _ e => (HOB.out.lt i e.symm).1)) (fun i _ h => h)⟩
            · rw [List.length_append, us_snoc]
              exact (HOA.out.alloc _).kept hgB (.inr hne)
            · rw [List.length_append, us_snoc]
              exact hoB
            · right
              intro e
              have e' : gA = gB := by simpa [Value.ownBlock] using e
              rcases hatB with h | h
              · exact hne (by rw [h, e'])
              · omega
          have HRX := Lib.hid hRX
          have htk2 : (tks ++ [nn]).length ≤ 40 := by have := HTK.out; simp; omega
          clear hoB hgB hatB hRX HOA HOB HB3 HK3 HAT HRA2 HRB2 HB2 HK2
          go_wp2_with fail
          go_loop [14, 15] (fun sm kk => ∃ S : Int, sm = .int .u64 S ∧ 0 ≤ S ∧ S ≤ 3999960 ∧ ((∃ q : Nat, q < (tms ++ [X]).length ∧ kk = .int .i64 (q : Int) ∧ Hid (S = sumFrom (tks ++ [nn]) (q + 1))) ∨ kk = .int .i64 (-1))) (fun _ kk => (intOf kk + 1).toNat)
          case atStart =>
            have e := HRX.out.bnd.1
            rw [List.length_append, List.length_append] at e; simp at e
            rcases Nat.eq_zero_or_pos (tms ++ [X]).length with hz | hz
            · simp at hz
            · exact ⟨0, rfl, by omega, by omega, .inl ⟨tms.length, by simp, congrArg (Value.int .i64) (by omega), Lib.hid (by rw [sumFrom_end]; simp; omega)⟩⟩
          case round =>
            obtain ⟨S, rfl, S0, S1, hq⟩ := hrel
            rcases hq with ⟨q, hq, rfl, hS⟩ | rfl
            · obtain ⟨g1, d1, e1, -, hg1, ct⟩ := row_at HRX.out.ra hq
              have hq2 : q < (tks ++ [nn]).length := by have := HRX.out.bnd.1; omega
              obtain ⟨g2, d2, e2, -, hg2, ck⟩ := row_at HRX.out.rb hq2
              obtain ⟨rfl, rfl⟩ : gA = g1 ∧ cA = d1 := by simpa using e1
              obtain ⟨rfl, rfl⟩ : gB = g2 ∧ cB = d2 := by simpa using e2
              have hst := sumFrom_step (tks ++ [nn]) q hq2
              have hrg := sumFrom_range (tks ++ [nn]) q 99999 (by omega) HRX.out.bnd.2.1 htk2
              have hkq := HRX.out.bnd.2.1 (tks ++ [nn])[q] (List.getElem_mem hq2)
              have hok := HRX.out.bnd.ok r0 (show 0 ≤ L - nn by omega) (Int.le_refl X) q hq
              obtain ⟨hq0, hq1, -⟩ := HRX.out.bnd.2.2 q hq
              have hP := mul_le (b := 99999) r0 r1 (show 0 ≤ X - (tms ++ [X])[q] by omega) (by omega)
              rw [hst, ← hS.out] at hok hrg
              have HST := Lib.hid hst
              generalize (tms ++ [X])[q] = tq at ct hok hq0 hq1 hP
              generalize hkk : (tks ++ [nn])[q] = kq at ck hok hrg hkq
              have HKK := Lib.hid hkk
              obtain ⟨hP0, hP1⟩ := hP
              obtain ⟨hk0, hk1⟩ := hkq
              obtain ⟨hr0, hr1⟩ := hrg
              have qI : (q : Int) < (tms.length : Int) + 1 := by simp at hq; omega
              have qI2 : (q : Int) < (tks.length : Int) + 1 := by simp at hq2; omega
              have w0 : kq + S = S + kq := by omega
              have hno : ¬ (sz + 1 + r * (X - tq) < S + kq) := by omega
              clear hst hkk e1 e2 w0
              go_wp2_with fail
              go_round
              case rel =>
                go_light
                rcases Nat.eq_zero_or_pos q with hz | hz
                · exact ⟨S + kq, rfl, by omega, by omega, .inr (congrArg (Value.int .i64) (by omega))⟩
                · exact ⟨S + kq, rfl, by omega, by omega, .inl ⟨q - 1, by omega, congrArg (Value.int .i64) (by omega), Lib.hid (by rw [show q - 1 + 1 = q by omega, HST.out, HKK.out, ← hS.out]; omega)⟩⟩
              case measure => simp [intOf]
            · go_wp2_with fail
              go_roundg (gk - 1)
              case measure => have := HGK.out; omega
              case rel => exact ⟨k + 1, X, L - nn, X, tms ++ [X], tks ++ [nn], by omega, by have := HGK.out; omega, by go_num, rfl, X1, X0, Int.le_refl _, by omega, by omega, by rw [List.length_append]; simp; omega, HRX.out⟩
        · go_wp2_with fail
          refine (take_no w1.heap.size r (sz + 1) lv t X _ r0 (by omega) (by omega) l0 l1 t0 (by omega) X0 (by omega) HR.out.bkt nn L X HL.out HT.out (by omega)).mono ?_
          rintro e w2 ⟨rfl, hB2, hK2⟩
          have hRX : BRel w w2 w1.heap.size r (sz + 1) L X (.slice Aa tms.length ca) (.slice Ab tks.length cb) tms tks := ⟨HBF.out, hB2, HR.out.ra.kept hK2.grown (.inr (own_ne HR.out.ra HR.out.bkt (by decide))), HR.out.rb.kept hK2.grown (.inr (own_ne HR.out.rb HR.out.bkt (by decide))), HR.out.ap, HR.out.kp.then hK2 (fun i hi h => by omega)⟩
          have HRX := Lib.hid hRX
          clear hB2 hK2 hRX c1 c2
          go_wp2_with fail
          go_loop [14, 15] (fun sm kk => ∃ S : Int, sm = .int .u64 S ∧ 0 ≤ S ∧ S ≤ 3999960 ∧ ((∃ q : Nat, q < tms.length ∧ kk = .int .i64 (q : Int) ∧ Hid (S = sumFrom tks (q + 1))) ∨ kk = .int .i64 (-1))) (fun _ kk => (intOf kk + 1).toNat)
          case atStart =>
            have e := HRX.out.bnd.1
            rcases Nat.eq_zero_or_pos tms.length with hz | hz
            · exact ⟨0, rfl, by omega, by omega, .inr (congrArg (Value.int .i64) (by omega))⟩
            · exact ⟨0, rfl, by omega, by omega, .inl ⟨tms.length - 1, by omega, congrArg (Value.int .i64) (by omega), Lib.hid (by rw [sumFrom_end]; omega)⟩⟩
          case round =>
            obtain ⟨S, rfl, S0, S1, hq⟩ := hrel
            rcases hq with ⟨q, hq, rfl, hS⟩ | rfl
            · obtain ⟨g1, d1, e1, -, hg1, ct⟩ := row_at HRX.out.ra hq
              have hq2 : q < tks.length := by have := HRX.out.bnd.1; omega
              obtain ⟨g2, d2, e2, -, hg2, ck⟩ := row_at HRX.out.rb hq2
              obtain ⟨rfl, rfl⟩ : Aa = some ⟨g1, 0, none⟩ ∧ ca = d1 := by simpa using e1
              obtain ⟨rfl, rfl⟩ : Ab = some ⟨g2, 0, none⟩ ∧ cb = d2 := by simpa using e2
              have hst := sumFrom_step tks q hq2
              have hrg := sumFrom_range tks q 99999 (by omega) HRX.out.bnd.2.1 htk
              have hkq := HRX.out.bnd.2.1 tks[q] (List.getElem_mem hq2)
              have hok := HRX.out.bnd.ok r0 L0 (Int.le_refl X) q hq
              obtain ⟨hq0, hq1, -⟩ := HRX.out.bnd.2.2 q hq
              have hP := mul_le (b := 99999) r0 r1 (show 0 ≤ X - tms[q] by omega) (by omega)
              rw [hst, ← hS.out] at hok hrg
              have HST := Lib.hid hst
              generalize tms[q] = tq at ct hok hq0 hq1 hP
              generalize hkk : tks[q] = kq at ck hok hrg hkq
              have HKK := Lib.hid hkk
              obtain ⟨hP0, hP1⟩ := hP
              obtain ⟨hk0, hk1⟩ := hkq
              obtain ⟨hr0, hr1⟩ := hrg
              have qI : (q : Int) < (tms.length : Int) := by omega
              have qI2 : (q : Int) < (tks.length : Int) := by omega
              have w0 : kq + S = S + kq := by omega
              have hno : ¬ (sz + 1 + r * (X - tq) < S + kq) := by omega
              clear hst hkk e1 e2 w0
              go_wp2_with fail
              go_round
              case rel =>
                go_light
                rcases Nat.eq_zero_or_pos q with hz | hz
                · exact ⟨S + kq, rfl, by omega, by omega, .inr (congrArg (Value.int .i64) (by omega))⟩
                · exact ⟨S + kq, rfl, by omega, by omega, .inl ⟨q - 1, by omega, congrArg (Value.int .i64) (by omega), Lib.hid (by rw [show q - 1 + 1 = q by omega, HST.out, HKK.out, ← hS.out]; omega)⟩⟩
              case measure => simp [intOf]
            · go_wp2_with fail
              go_roundg (gk - 1)
              case measure => have := HGK.out; omega
              case rel => exact ⟨k + 1, X, L, X, tms, tks, by omega, by have := HGK.out; omega, by go_num, rfl, X1, X0, Int.le_refl _, L0, L1, by omega, HRX.out⟩
    · have hlt' : k < l.length → ¬ k < 40 := fun h h' => hlt ⟨h, h'⟩
      clear hlt
      by_cases hkl : k < l.length
      · have hk6 := hlt' hkl
        have kI : (k : Int) < (l.length : Int) := by omega
        clear hlt'
        go_wp2_with fail
        refine (awake_any _).mono ?_
        rintro e w2 ⟨rfl, hb2⟩
        go_wp2_with fail
        go_ret
        exact ⟨rfl, (HR.out.kp.then (Kept.of_below (S := fun i => w.heap.size ≤ i) hb2 (fun i _ h => by omega)) (fun i _ h => h)).below (Nat.le_refl _) (fun i h => h)⟩
      · have kI : ¬ (k : Int) < (l.length : Int) := by omega
        clear hlt'
        go_wp2_with fail
        refine (awake_any _).mono ?_
        rintro e w2 ⟨rfl, hb2⟩
        go_wp2_with fail
        go_ret
        exact ⟨rfl, (HR.out.kp.then (Kept.of_below (S := fun i => w.heap.size ≤ i) hb2 (fun i _ h => by omega)) (fun i _ h => h)).below (Nat.le_refl _) (fun i h => h)⟩
end Go.Proofs.Ytcpiohmgnlapiaa
