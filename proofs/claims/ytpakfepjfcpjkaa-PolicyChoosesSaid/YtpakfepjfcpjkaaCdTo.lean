import Derived.Test.YtpakfepjfcpjkaaCdRight
import Derived.Outline
import Derived.OwnWalk
import Derived.Deep.RegionHeld3
import Derived.Deep.AppendLies
import Derived.Deep.Light
namespace Go.Proofs.Ytpakfepjfcpjkaa
open Go.RowKit

theorem Try.infoCd : (Try.prog.info? 45).map (fun i => (i.zero, i.size, i.bytes)) = some (some (.agg #[.int .i64 0, .int .i64 0, .int .i64 0, .int .u32 0]), 4, 32) := by kernel_rfl

def Cd.cs (c : Cd) : List Value := [.int .i64 c.slot, .int .i64 c.backend, .int .i64 c.weight, .int .u32 c.load]
def flat (l : List Cd) : List Value := l.flatMap Cd.cs
theorem flat_snoc (l : List Cd) (k : Nat) (h : k < l.length) : flat (l.take (k + 1)) = flat (l.take k) ++ [.int .i64 l[k].slot, .int .i64 l[k].backend, .int .i64 l[k].weight, .int .u32 l[k].load] := by
  unfold flat
  rw [List.take_succ_eq_append_getElem h, List.flatMap_append]
  simp [Cd.cs]

set_option maxRecDepth 100000 in
set_option maxHeartbeats 3200000 in
theorem to_any (b off cap : Nat) (l : List Cd) (w : World) (hl : l.length ≤ 70) (hc : CellsAt w b off l) (hb : b < w.heap.size) :
    Calls Try.prog 13 #[.slice (some ⟨b, off, none⟩) l.length cap] w fun e w' => ∃ v, e = .returned v ∧ w'.ownsRow w.heap.size 45 4 v l.length (flat l) ∧ Below w.heap.size w w' := by
  have HC := Lib.hid hc
  clear hc
  obtain ⟨i0, hi0, hz0, hz1, hz2⟩ := info_parts Try.infoCd
  go_enter Try.func13, Try.ntmps13
  go_wp2
  go_loopw [3, 4] (fun ov i wr => ∃ k : Nat, k ≤ l.length ∧ i = .int .i64 k ∧ Hid (wr.ownsRow w.heap.size 45 4 ov k (flat (l.take k))) ∧ Hid (Below w.heap.size w wr)) (fun _ i _ => l.length - (intOf i).toNat)
  case atStart => exact ⟨0, Nat.zero_le _, rfl, Lib.hid (World.ownsRow_nil _ _ _ _), Lib.hid (Below.refl _ _)⟩
  case round =>
    obtain ⟨k, hk, rfl, HO, HB⟩ := hrel
    by_cases hlt : k < l.length
    · obtain ⟨h0, h1, h2, h3⟩ := HC.out.keep (fun o => HB.out.cell (p := ⟨b, o, none⟩) hb) k hlt
      have hsz := HB.out.size
      have blt : b < wr.heap.size := by omega
      have hk0 : (0 : Int) ≤ (k : Int) := Int.natCast_nonneg _
      have hk1 : (k : Int) < (l.length : Int) := by omega
      have hne : u3.ownBlock ≠ some b := fun e => by have := (HO.out.lt b e).1; omega
      go_wp2_with fail
      go_region_held3 (fun w' => w'.cell? ⟨b, off + k * 4, none⟩ = some (.int .i64 l[k].slot) ∧ w'.cell? ⟨b, off + k * 4 + 1, none⟩ = some (.int .i64 l[k].backend) ∧
          w'.cell? ⟨b, off + k * 4 + 2, none⟩ = some (.int .i64 l[k].weight) ∧ w'.cell? ⟨b, off + k * 4 + 3, none⟩ = some (.int .u32 l[k].load))
        (first
          | go_keep
          | (go_split_ands
             refine ⟨?_, ?_, ?_, ?_⟩
             · (rw [hgrow.cell_far _ (by simp; omega) (Ne.symm hne)]; assumption)
             · (rw [hgrow.cell_far _ (by simp; omega) (Ne.symm hne)]; assumption)
             · (rw [hgrow.cell_far _ (by simp; omega) (Ne.symm hne)]; assumption)
             · (rw [hgrow.cell_far _ (by simp; omega) (Ne.symm hne)]; assumption)))
        ((refine step_append_lies _ (by rfl) _ _ _ (by rfl) w.heap.size 45 i0 _ 4 32 Try.underlying48 hi0 hz0 hz1 hz2 rfl (by omega) u3 k (flat (l.take k)) (by rfl) ((HO.out.alloc _).drew)
            ⟨wr.heap.size, 0, none⟩ 1 1 [.int .i64 l[k].slot, .int .i64 l[k].backend, .int .i64 l[k].weight, .int .u32 l[k].load] (by rfl) (by rfl) (World.news_of_block (cs := #[.int .i64 l[k].slot, .int .i64 l[k].backend, .int .i64 l[k].weight, .int .u32 l[k].load]) (t := 45) (fr := (0, 0)) (heap_alloc_new wr _)) (by simp [Value.oneCell'])
            (by omega) (by unfold maxLen; omega) (by omega) (by simp; omega) (wr.heap.size + 1) (by simp) ?_; intro gg cap' w1 hown1 hgrow hat hlt'))
      go_wp2
      go_roundw
      case rel => exact ⟨k + 1, by omega, by go_num, Lib.hid (by rw [flat_snoc l k hlt]; exact hown1), Lib.hid (((HB.out.alloc hsz _).drew).grown hgrow (by simp; omega) (fun g e => (HO.out.lt g e).1))⟩
      case measure => simp [intOf]; omega
    · have : k = l.length := by omega
      subst this
      go_wp2
      go_ret
      exact ⟨u3, rfl, by simpa using HO.out, HB.out⟩
theorem to_nil (A : Option Addr) (cap : Nat) (w : World) :
    Calls Try.prog 13 #[.slice A 0 cap] w fun e w' => e = .returned (.slice none 0 0) ∧ w = w' := by
  go_enter Try.func13, Try.ntmps13
  go_wp2
  refine wp_loop_rounds 1 ?_; rw [rounds_succ]
  go_wp2
  go_ret
  exact ⟨rfl, rfl⟩

theorem flat_at (l : List Cd) (k : Nat) (h : k < l.length) (j : Nat) (hj : j < 4) : (flat l)[k * 4 + j]? = l[k].cs[j]? := by
  induction l generalizing k with
  | nil => simp at h
  | cons c r ih =>
    have e : flat (c :: r) = c.cs ++ flat r := by simp [flat]
    have hl : c.cs.length = 4 := rfl
    rw [e]
    cases k with
    | zero => rw [List.getElem?_append_left (by omega)]; simp
    | succ k =>
      rw [List.getElem?_append_right (by omega), hl, show (k + 1) * 4 + j - 4 = k * 4 + j by omega]
      simpa using ih k (by simpa using h)

theorem own_cells {w : World} {base g c : Nat} {l : List Cd} (h : w.ownsRow base 45 4 (.slice (some ⟨g, 0, none⟩) l.length c) l.length (flat l)) : CellsAt w g 0 l := by
  intro k hk
  have f := fun j (hj : j < 4) => (h.cellAt (k * 4 + j) (by omega)).trans (flat_at l k hk j hj)
  have f0 := f 0 (by omega)
  have f1 := f 1 (by omega)
  have f2 := f 2 (by omega)
  have f3 := f 3 (by omega)
  simp only [Nat.zero_add, Nat.add_zero] at *
  exact ⟨f0, f1, f2, f3⟩

/-- What To leaves: a slice that holds the same candidates, in new memory. -/
def Made (l : List Cd) (w : World) (e : Ending) (w' : World) : Prop :=
  Below w.heap.size w w' ∧ ((l = [] ∧ e = .returned (.slice none 0 0)) ∨ (l ≠ [] ∧ ∃ g c, e = .returned (.slice (some ⟨g, 0, none⟩) l.length c) ∧ w.heap.size ≤ g ∧ g < w'.heap.size ∧ CellsAt w' g 0 l))

theorem to_c (B : Nat) (A : Option Addr) (cap : Nat) (l : List Cd) (w : World) (hl : l.length ≤ 70) (hB : B ≤ w.heap.size) (hc : Cands w B A l) :
    Calls Try.prog 13 #[.slice A l.length cap] w (Made l w) := by
  by_cases h0 : l = []
  · subst h0
    refine (to_nil A cap w).mono ?_
    rintro e w' ⟨rfl, rfl⟩
    exact ⟨Below.refl _ _, .inl ⟨rfl, rfl⟩⟩
  · rcases hc with rfl | ⟨b, off, hb, rfl, hc⟩
    · exact absurd rfl h0
    refine (to_any b off cap l w hl hc (by omega)).mono ?_
    rintro e w' ⟨v, rfl, ho, hbel⟩
    refine ⟨hbel, ?_⟩
    obtain ⟨g, c, rfl, h1, h2⟩ := ho.form (List.length_pos_iff.2 h0)
    exact .inr ⟨h0, g, c, rfl, h1, h2, own_cells ho⟩

end Go.Proofs.Ytpakfepjfcpjkaa
