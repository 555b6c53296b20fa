/- Contracts of sum.UpdateLong and sum.UpdateAll, and the walk of SumSteps. -/
import Derived.Test.YteoikfjjlpcicaaB
import Derived.Deep.QuietTactic
import Derived.BigQuiet
namespace Go.Proofs.Yteoikfjjlpcicaa
open Go.RowKit

theorem updateLong_any (s was now : Int) (w : World) (s0 : 0 ≤ s) (s1 : s ≤ 65535) (a0 : 0 ≤ was) (a1 : was ≤ 4294967295) (b0 : 0 ≤ now) (b1 : now ≤ 4294967295) :
    Calls Try.prog 11 #[.int .u16 s, .int .u32 was, .int .u32 now] w fun e w' => e = .returned (.int .u16 (updI (updI s (was / 65536) (now / 65536)) (was % 65536) (now % 65536))) ∧ w = w' := by
  have hr := updI_range s (was / 65536) (now / 65536)
  have h1 := update_any s (was / 65536) (now / 65536) w s0 s1 (by omega) (by omega) (by omega) (by omega)
  obtain ⟨x, hx⟩ : ∃ x, updI s (was / 65536) (now / 65536) = x := ⟨_, rfl⟩
  rw [hx] at hr h1 ⊢
  have h2 := update_any x (was % 65536) (now % 65536) w hr.1 hr.2 (by omega) (by omega) (by omega) (by omega)
  obtain ⟨y, hy⟩ : ∃ y, updI x (was % 65536) (now % 65536) = y := ⟨_, rfl⟩
  rw [hy] at h2 ⊢
  have H1 := Lib.hid h1
  have H2 := Lib.hid h2
  obtain ⟨x0, x1⟩ := hr
  have k1 := IntKind.wrap_u16 was
  have k2 := IntKind.wrap_u16 now
  clear h1 h2 hx hy
  go_enter Try.func11, Try.ntmps11
  go_wp2_with fail
  refine H1.out.mono ?_
  rintro e w' ⟨rfl, rfl⟩
  go_wp2_with fail
  refine H2.out.mono ?_
  rintro e w' ⟨rfl, rfl⟩
  go_wp2_with fail
  go_ret
  exact ⟨rfl, rfl⟩

/-- Changes in memory. -/
def ChAt (w : World) (b off : Nat) (l : List (Int × Int)) : Prop :=
  ∀ k (h : k < l.length), w.cell? ⟨b, off + k * 2, none⟩ = some (.int .u16 l[k].1) ∧ w.cell? ⟨b, off + k * 2 + 1, none⟩ = some (.int .u16 l[k].2) ∧ 0 ≤ l[k].1 ∧ l[k].1 ≤ 65535 ∧ 0 ≤ l[k].2 ∧ l[k].2 ≤ 65535
def Ch (w : World) (B : Nat) (A : Option Addr) (l : List (Int × Int)) : Prop := l = [] ∨ ∃ b off, b < B ∧ A = some ⟨b, off, none⟩ ∧ ChAt w b off l
theorem Ch.at {w : World} {B : Nat} {A : Option Addr} {l : List (Int × Int)} (h : Ch w B A l) {k : Nat} (hk : k < l.length) : ∃ b off, b < B ∧ A = some ⟨b, off, none⟩ ∧ ChAt w b off l := by
  rcases h with rfl | h
  · simp at hk
  · exact h
theorem Ch.keep {w w' : World} {B : Nat} {A : Option Addr} {l : List (Int × Int)} (h : Ch w B A l) (hk : ∀ b o, b < B → w'.cell? ⟨b, o, none⟩ = w.cell? ⟨b, o, none⟩) : Ch w' B A l := by
  rcases h with h | ⟨b, off, hb, h1, h2⟩
  · exact .inl h
  · refine .inr ⟨b, off, hb, h1, fun k hk' => ?_⟩
    have := h2 k hk'
    simp only [hk b _ hb]
    exact this
def allI (s : Int) (l : List (Int × Int)) : Int := l.foldl (fun s c => updI s c.1 c.2) s
theorem allI_snoc (s : Int) (l : List (Int × Int)) (k : Nat) (h : k < l.length) : allI s (l.take (k + 1)) = updI (allI s (l.take k)) l[k].1 l[k].2 := by
  rw [List.take_succ_eq_append_getElem h, allI, List.foldl_append]; rfl

set_option maxHeartbeats 2000000 in
theorem updateAll_any (s : Int) (A : Option Addr) (cap B : Nat) (l : List (Int × Int)) (w : World) (s0 : 0 ≤ s) (s1 : s ≤ 65535) (hl : l.length ≤ 100) (hB : B ≤ w.heap.size) (hc : Ch w B A l) :
    Calls Try.prog 12 #[.int .u16 s, .slice A l.length cap] w fun e w' => e = .returned (.int .u16 (allI s l)) ∧ Below w.heap.size w w' := by
  have HC := Lib.hid hc
  clear hc
  go_enter Try.func12, Try.ntmps12
  go_wp2
  go_loopw [0, 9] (fun t i wr => ∃ k : Nat, ∃ x : Int, k ≤ l.length ∧ i = .int .i64 k ∧ t = .int .u16 x ∧ 0 ≤ x ∧ x ≤ 65535 ∧ Hid (x = allI s (l.take k)) ∧ Hid (Below w.heap.size w wr)) (fun _ i _ => l.length - (intOf i).toNat)
  case atStart => exact ⟨0, s, Nat.zero_le _, rfl, rfl, s0, s1, Lib.hid rfl, Lib.hid (Below.refl _ _)⟩
  case round =>
    obtain ⟨k, x, hk, rfl, rfl, x0, x1, hx, HB⟩ := hrel
    by_cases hlt : k < l.length
    · obtain ⟨b, off, hb, rfl, hca⟩ := (HC.out.keep (w' := wr) fun b o hb => HB.out.cell (p := ⟨b, o, none⟩) (by simp only []; omega)).at hlt
      obtain ⟨c0, c1, p0, p1, q0, q1⟩ := hca k hlt
      have hs := HB.out.size
      have blt : b < wr.heap.size := by omega
      have hsn := allI_snoc s l k hlt
      obtain ⟨p, hp⟩ : ∃ p, l[k].1 = p := ⟨_, rfl⟩
      obtain ⟨q, hq⟩ : ∃ q, l[k].2 = q := ⟨_, rfl⟩
      rw [hp] at c0 p0 p1 hsn
      rw [hq] at c1 q0 q1 hsn
      have hr := updI_range x p q
      have h1 := fun W => update_any x p q W x0 x1 p0 p1 q0 q1
      rw [← hx.out] at hsn
      obtain ⟨y, hy⟩ : ∃ y, updI x p q = y := ⟨_, rfl⟩
      rw [hy] at hr hsn
      simp only [hy] at h1
      obtain ⟨y0, y1⟩ := hr
      have HY := Lib.hid hsn
      have H1 := Lib.hid h1
      clear hca hp hq hsn h1 hy
      go_wp2_with fail
      refine (H1.out _).mono ?_
      rintro e w' ⟨rfl, rfl⟩
      go_wp2_with fail
      go_roundw
      case rel => exact ⟨k + 1, y, by omega, by go_num, rfl, y0, y1, Lib.hid HY.out.symm, Lib.hid (HB.out.alloc hs _)⟩
      case measure => simp [intOf]; omega
    · have hkl : k = l.length := by omega
      have HX := Lib.hid (show x = allI s l by rw [hx.out, hkl, List.take_length])
      clear hkl
      go_wp2
      go_ret
      exact ⟨ret_int HX.out, HB.out⟩

set_option maxHeartbeats 4000000 in
theorem sumSteps_far (s was now : Int) (A : Option Addr) (n cap : Nat) (w : World) (h : 100 < n) (hn : n ≤ 9223372036854775807) :
    Calls Try.prog 4 #[.int .u16 s, .int .u32 was, .int .u32 now, .slice A n cap] w fun e w' => e = .returned (.bool true) ∧ Below w.heap.size w w' := by
  go_enter Try.func4, Try.ntmps4
  go_wp2_with fail
  refine (awake_any _).mono ?_
  rintro e w' ⟨rfl, hb⟩
  go_wp2_with fail
  go_ret
  exact ⟨rfl, hb⟩

set_option maxHeartbeats 4000000 in
theorem sumSteps_any (s was now : Int) (A : Option Addr) (cap : Nat) (l : List (Int × Int)) (w : World) (s0 : 0 ≤ s) (s1 : s ≤ 65535) (a0 : 0 ≤ was) (a1 : was ≤ 4294967295) (b0 : 0 ≤ now) (b1 : now ≤ 4294967295) (hl : l.length ≤ 100) (hc : Ch w w.heap.size A l) :
    Calls Try.prog 4 #[.int .u16 s, .int .u32 was, .int .u32 now, .slice A l.length cap] w fun e w' => e = .returned (.bool true) ∧ Below w.heap.size w w' := by
  have HC := Lib.hid hc
  have hd : decide ((100 : Int) < (l.length : Int)) = false := by simp; omega
  have hr := updI_range s (was / 65536) (now / 65536)
  have h1 := fun W => refUpdate_any s (was / 65536) (now / 65536) W s0 s1 (by omega) (by omega) (by omega) (by omega)
  have h2 := fun W => refUpdate_any s (was % 65536) (now % 65536) W s0 s1 (by omega) (by omega) (by omega) (by omega)
  have h3 := fun W => update_any s (was % 65536) (now % 65536) W s0 s1 (by omega) (by omega) (by omega) (by omega)
  have h4 := fun W => updateLong_any s was now W s0 s1 a0 a1 b0 b1
  have h6 := fun W => updateAll_any s A cap w.heap.size l W s0 s1 hl
  obtain ⟨x, hx⟩ : ∃ x, updI s (was / 65536) (now / 65536) = x := ⟨_, rfl⟩
  rw [hx] at hr
  simp only [hx] at h1 h4
  have h5 := fun W => refUpdate_any x (was % 65536) (now % 65536) W hr.1 hr.2 (by omega) (by omega) (by omega) (by omega)
  obtain ⟨y, hy⟩ : ∃ y, updI x (was % 65536) (now % 65536) = y := ⟨_, rfl⟩
  simp only [hy] at h4 h5
  obtain ⟨z, hz⟩ : ∃ z, updI s (was % 65536) (now % 65536) = z := ⟨_, rfl⟩
  simp only [hz] at h2 h3
  obtain ⟨v, hv⟩ : ∃ v, allI s l = v := ⟨_, rfl⟩
  simp only [hv] at h6
  obtain ⟨x0, x1⟩ := hr
  have H1 := Lib.hid h1
  have H2 := Lib.hid h2
  have H3 := Lib.hid h3
  have H4 := Lib.hid h4
  have H5 := Lib.hid h5
  have H6 := Lib.hid h6
  have HV := Lib.hid hv
  have k1 := IntKind.wrap_u16 was
  have k2 := IntKind.wrap_u16 now
  clear hc h1 h2 h3 h4 h5 h6 hx hy hz hv
  go_enter Try.func4, Try.ntmps4
  go_wp2_with fail
  refine (H1.out _).mono ?_
  rintro e w' ⟨rfl, rfl⟩
  go_wp2_with fail
  go_loopw [10, 11] (fun t i wr => ∃ k : Nat, ∃ u : Int, k ≤ l.length ∧ i = .int .i64 k ∧ t = .int .u16 u ∧ 0 ≤ u ∧ u ≤ 65535 ∧ Hid (u = allI s (l.take k)) ∧ Hid (Below w.heap.size w wr)) (fun _ i _ => l.length - (intOf i).toNat)
  case atStart => exact ⟨0, s, Nat.zero_le _, rfl, rfl, s0, s1, Lib.hid rfl, Lib.hid (Below.refl _ _)⟩
  case round =>
    obtain ⟨k, u, hk, rfl, rfl, u0, u1, hu, HW⟩ := hrel
    have HC2 := Lib.hid (HC.out.keep (w' := wr) fun b o hb => HW.out.cell (p := ⟨b, o, none⟩) hb)
    have hsW := HW.out.size
    by_cases hlt : k < l.length
    · obtain ⟨b, off, hb, rfl, hca⟩ := HC2.out.at hlt
      obtain ⟨c0, c1, p0, p1, q0, q1⟩ := hca k hlt
      have hsn := allI_snoc s l k hlt
      obtain ⟨p, hp⟩ : ∃ p, l[k].1 = p := ⟨_, rfl⟩
      obtain ⟨q, hq⟩ : ∃ q, l[k].2 = q := ⟨_, rfl⟩
      rw [hp] at c0 p0 p1 hsn
      rw [hq] at c1 q0 q1 hsn
      have hr := updI_range u p q
      have g1 := fun W => refUpdate_any u p q W u0 u1 p0 p1 q0 q1
      rw [← hu.out] at hsn
      obtain ⟨y', hy⟩ : ∃ y, updI u p q = y := ⟨_, rfl⟩
      rw [hy] at hr hsn
      simp only [hy] at g1
      obtain ⟨y0, y1⟩ := hr
      have HY := Lib.hid hsn
      have G1 := Lib.hid g1
      have kI : (k : Int) < (l.length : Int) := by omega
      have kN : (0 : Int) ≤ (k : Int) := by omega
      clear hca hp hq hsn g1 hy
      go_wp2_with fail
      go_quiet ((go_at_call 10; exact (G1.out _).mono fun _ _ ⟨he, hw⟩ => ⟨he, drewN_of hw⟩))
      go_wp2_with fail
      go_roundw
      case rel => exact ⟨k + 1, y', by omega, by go_num, rfl, y0, y1, Lib.hid HY.out.symm, Lib.hid (belowN HW.out _)⟩
      case measure => simp [intOf]; omega
    · have hkl : k = l.length := by omega
      have hu' : u = v := by rw [hu.out, hkl, List.take_length, HV.out]
      clear hkl
      subst hu'
      go_wp2_with fail
      refine (H3.out _).mono ?_
      rintro e w' ⟨rfl, rfl⟩
      go_wp2_with fail
      refine (H2.out _).mono ?_
      rintro e w' ⟨rfl, rfl⟩
      go_wp2_with fail
      refine (H4.out _).mono ?_
      rintro e w' ⟨rfl, rfl⟩
      go_wp2_with fail
      refine (H5.out _).mono ?_
      rintro e w' ⟨rfl, rfl⟩
      go_wp2_with fail
      refine (H6.out _ hsW HC2.out).mono ?_
      rintro e w2 ⟨rfl, hb2⟩
      go_wp2_with fail
      refine (awake_any _).mono ?_
      rintro e w3 ⟨rfl, hb3⟩
      go_wp2_with fail
      go_ret
      exact ⟨rfl, HW.out.trans ((hb2.trans (hb3.mono hb2.size)).mono hsW)⟩
end Go.Proofs.Yteoikfjjlpcicaa
