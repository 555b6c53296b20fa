import Derived.Test.YtokahoabhhipmaaPick
namespace Go.Proofs.Ytokahoabhhipmaa
open Go.RowKit

def two : List Cd := [⟨1, 0, 0, 0⟩, ⟨4, 0, 0, 0⟩]
def twoCs : Array Value := #[.int .i64 1, .int .i64 0, .int .i64 0, .int .u32 0, .int .i64 4, .int .i64 0, .int .i64 0, .int .u32 0]
theorem two_cells {w : World} {b : Nat} (h : Blk w b 32 twoCs) : CellsAt w b 0 two := by
  intro k hk
  have hk2 : k < 2 := hk
  simp only [h.cell]
  match k, hk2 with
  | 0, _ => exact ⟨rfl, rfl, rfl, rfl⟩
  | 1, _ => exact ⟨rfl, rfl, rfl, rfl⟩

theorem pick_two (tb b : Nat) (n : Int) (k : Nat) (c : Cd) (w : World) (hk : pickI two n = k) (hc : two[k]? = some c) (hb : Blk w b 32 twoCs) (ht : Blk w tb 27 #[.int .i64 n]) :
    Calls Try.prog 9 #[.pointer (some ⟨tb, 0, none⟩), .slice (some ⟨b, 0, none⟩) 2 2] w fun e w' => e = .returned (.tuple #[.agg #[.int .i64 c.slot, .int .i64 c.backend, .int .i64 c.weight, .int .u32 c.load], .bool true]) ∧ Blk w' tb 27 #[.int .i64 (c.slot + 1)] ∧ Kept (· = tb) w w' := by
  refine (pick_any tb b 0 2 two n w (by decide) (by decide) (two_cells hb) (by intro c hc; simp [two] at hc; rcases hc with rfl | rfl <;> decide) hb.lt ht).mono ?_
  rintro e w' ⟨k', hk', rfl, rfl, h1, h2⟩
  subst hk
  have : two[pickI two n] = c := by
    rw [List.getElem?_eq_getElem hk'] at hc
    exact Option.some.inj hc
  rw [this] at h1 ⊢
  exact ⟨rfl, h1, h2⟩

set_option maxHeartbeats 1000000 in
theorem awake_any (w : World) : Calls Try.prog 7 #[] w fun e w' => e = .returned (.bool true) ∧ Below w.heap.size w w' := by
  go_enter Try.func7, Try.ntmps7
  go_wp2_with fail
  refine (pick_two w.heap.size (w.heap.size + 1) 0 0 ⟨1, 0, 0, 0⟩ _ rfl rfl ?_ ?_).mono ?_
  · exact Blk.new_ (by simp) _ _
  · exact (Blk.new _ _ _).alloc _
  rintro e w1 ⟨rfl, hT1, hK1⟩
  have hB1 : Blk w1 (w.heap.size + 1) 32 twoCs := (Blk.new_ (w := w.alloc _) (by simp) _ _).kept hK1 (by omega)
  have KK1 : Kept (fun i => w.heap.size ≤ i) w w1 := (((Kept.refl _ w).alloc _).alloc _).then hK1 (fun i hi h => by omega)
  have s1 : w.heap.size + 2 ≤ w1.heap.size := by have := hK1.size; simpa using this
  have HT1 := Lib.hid hT1
  have HB1 := Lib.hid hB1
  have H1 := Lib.hid KK1
  clear hT1 hB1 KK1 hK1
  go_wp2_with fail
  refine (pick_two w.heap.size (w.heap.size + 1) 2 1 ⟨4, 0, 0, 0⟩ _ rfl rfl ?_ ?_).mono ?_
  · exact HB1.out.alloc _
  · exact HT1.out.alloc _
  rintro e w2 ⟨rfl, hT2, hK2⟩
  have hB2 : Blk w2 (w.heap.size + 1) 32 twoCs := (HB1.out.alloc _).kept hK2 (by omega)
  have hA2 : Blk w2 w1.heap.size 32 _ := (Blk.new _ _ _).kept hK2 (by omega)
  have KK2 : Kept (fun i => w.heap.size ≤ i) w w2 := ((H1.out).alloc _).then hK2 (fun i hi h => by omega)
  have s2 : w1.heap.size + 1 ≤ w2.heap.size := by have := hK2.size; simpa using this
  have HT2 := Lib.hid hT2
  have HB2 := Lib.hid hB2
  have HA2 := Lib.hid hA2
  have H2 := Lib.hid KK2
  clear hT2 hB2 hA2 KK2 hK2
  go_wp2_with fail
  refine (pick_two w.heap.size (w.heap.size + 1) 5 0 ⟨1, 0, 0, 0⟩ _ rfl rfl ?_ ?_).mono ?_
  · exact HB2.out.alloc _
  · exact HT2.out.alloc _
  rintro e w3 ⟨rfl, hT3, hK3⟩
  have hA3 : Blk w3 w1.heap.size 32 _ := (HA2.out.alloc _).kept hK3 (by omega)
  have hC3 : Blk w3 w2.heap.size 32 _ := (Blk.new _ _ _).kept hK3 (by omega)
  have KK3 : Kept (fun i => w.heap.size ≤ i) w w3 := ((H2.out).alloc _).then hK3 (fun i hi h => by omega)
  have s3 : w2.heap.size + 1 ≤ w3.heap.size := by have := hK3.size; simpa using this
  have l1 : w1.heap.size < w3.heap.size := by omega
  have l2 : w2.heap.size < w3.heap.size := by omega
  have c1 := hA3.cell 0
  have c2 := hC3.cell 0
  simp at c1 c2
  have H3 := Lib.hid KK3
  clear hT3 hA3 hC3 KK3 hK3
  go_wp2_with fail
  go_ret
  exact ⟨rfl, (H3.out.alloc _).below (Nat.le_refl _) (fun i h => h)⟩
end Go.Proofs.Ytokahoabhhipmaa
