/- Words on slices of bytes: a slice that holds the bytes l, nil let in. -/
import Derived.Test.YteoikfjjlpcicaaBase
import Derived.Maps.AppendAt
import Derived.Deep.AppendLies
namespace Go.Proofs.Yteoikfjjlpcicaa
open Go.RowKit

/-- The cells from ⟨b, off⟩ on hold the bytes l. -/
def BytesAt (w : World) (b off : Nat) (l : List UInt8) : Prop := ∀ k (h : k < l.length), w.cell? ⟨b, off + k, none⟩ = some (.int .u8 (l[k].toNat : Int))
/-- A slice's address, below block B, leads to the bytes l; of none nothing is asked. -/
def BS (w : World) (B : Nat) (A : Option Addr) (l : List UInt8) : Prop := l = [] ∨ ∃ b off, b < B ∧ A = some ⟨b, off, none⟩ ∧ BytesAt w b off l
/-- The bytes as cells. -/
def bcs (l : List UInt8) : List Value := l.map fun x => Value.int .u8 (x.toNat : Int)

theorem byte_lt (x : UInt8) : (x.toNat : Int) < 256 := by have := x.toNat_lt; omega
theorem byte_le (x : UInt8) : (x.toNat : Int) ≤ 255 := by have := x.toNat_lt; omega

section
variable {w w' : World} {b off B B' : Nat} {A : Option Addr} {l : List UInt8}
theorem BytesAt.keep (h : BytesAt w b off l) (hk : ∀ o, w'.cell? ⟨b, o, none⟩ = w.cell? ⟨b, o, none⟩) : BytesAt w' b off l := fun k hk' => (hk _).trans (h k hk')
theorem BytesAt.kept {S : Nat → Prop} (h : BytesAt w b off l) (hk : Kept S w w') (hb : b < w.heap.size) (hS : ¬ S b) : BytesAt w' b off l := h.keep fun o => hk.cell hb hS o
theorem BytesAt.below (h : BytesAt w b off l) (hk : Below B w w') (hb : b < B) : BytesAt w' b off l := h.keep fun o => hk.cell (p := ⟨b, o, none⟩) hb
theorem BytesAt.alloc (h : BytesAt w b off l) (hb : b < w.heap.size) (o : Obj) : BytesAt (w.alloc o) b off l := h.keep fun _ => World.cell?_alloc_lt _ _ _ hb
theorem BytesAt.far {p : Addr} (h : BytesAt w b off l) (hb : b ≠ p.block) (u : Value) : BytesAt (w.setCell p u) b off l :=
  h.keep fun _ => World.cell?_setCell_other _ _ _ _ fun e => hb (by rw [e])
theorem BytesAt.drewN (h : BytesAt w b off l) (n : Nat) : BytesAt (w.drewN n) b off l := h
theorem BytesAt.drew (h : BytesAt w b off l) : BytesAt w.drew b off l := h
theorem BytesAt.drop (h : BytesAt w b off l) (k : Nat) : BytesAt w b (off + k) (l.drop k) := fun j hj => by
  have hj' : k + j < l.length := by rw [List.length_drop] at hj; omega
  have := h (k + j) hj'
  rw [List.getElem_drop, Nat.add_assoc]
  exact this
theorem BytesAt.take (h : BytesAt w b off l) (k : Nat) : BytesAt w b off (l.take k) := fun j hj => by
  have hj' : j < l.length := by rw [List.length_take] at hj; omega
  rw [List.getElem_take]
  exact h j hj'
theorem BytesAt.nil : BytesAt w b off [] := fun k hk => absurd hk (by simp)

theorem BS.nil : BS w B A [] := .inl rfl
theorem BS.keep (h : BS w B A l) (hk : ∀ b o, b < B → w'.cell? ⟨b, o, none⟩ = w.cell? ⟨b, o, none⟩) : BS w' B A l := by
  rcases h with h | ⟨b, off, hb, h1, h2⟩
  · exact .inl h
  · exact .inr ⟨b, off, hb, h1, h2.keep fun o => hk b o hb⟩
theorem BS.kept {S : Nat → Prop} (h : BS w B A l) (hk : Kept S w w') (hB : B ≤ w.heap.size) (hS : ∀ i, i < B → ¬ S i) : BS w' B A l := h.keep fun b o hb => hk.cell (by omega) (hS b hb) o
theorem BS.below (h : BS w B A l) (hk : Below B w w') : BS w' B A l := h.keep fun _ _ hb => hk.cell hb
theorem BS.belowLe {C : Nat} (h : BS w B A l) (hk : Below C w w') (hC : B ≤ C) : BS w' B A l := h.keep fun b o hb => hk.cell (p := ⟨b, o, none⟩) (Nat.lt_of_lt_of_le hb hC)
theorem BS.more (h : BS w B A l) (hB : B ≤ B') : BS w B' A l := by
  rcases h with h | ⟨b, off, hb, h1, h2⟩
  · exact .inl h
  · exact .inr ⟨b, off, by omega, h1, h2⟩
theorem BS.at (h : BS w B A l) {k : Nat} (hk : k < l.length) : ∃ b off, b < B ∧ A = some ⟨b, off, none⟩ ∧ BytesAt w b off l := by
  rcases h with rfl | h
  · simp at hk
  · exact h
theorem BS.alloc (h : BS w B A l) (hB : B ≤ w.heap.size) (o : Obj) : BS (w.alloc o) B A l := h.keep fun _ _ hb => World.cell?_alloc_lt _ _ _ (Nat.lt_of_lt_of_le hb hB)
theorem BS.drewN (h : BS w B A l) (n : Nat) : BS (w.drewN n) B A l := h
theorem BS.drew (h : BS w B A l) : BS w.drew B A l := h
theorem BS.of_at (h : BytesAt w b off l) (hb : b < B) : BS w B (some ⟨b, off, none⟩) l := .inr ⟨b, off, hb, rfl, h⟩
theorem BS.of_own {base e n c : Nat} (h : w.ownsRow base e 1 (.slice A n c) n (bcs l)) : n = l.length ∧ BS w w.heap.size A l := by
  have hn : n = l.length := by have := h.1; simp [bcs] at this; omega
  subst hn
  refine ⟨rfl, ?_⟩
  by_cases h0 : l = []
  · exact .inl h0
  · obtain ⟨g, cap, hv, _, hlt⟩ := h.form (List.length_pos_iff.2 h0)
    obtain ⟨rfl, rfl⟩ : A = some ⟨g, 0, none⟩ ∧ c = cap := by simpa using hv
    refine .inr ⟨g, 0, hlt, rfl, fun k hk => ?_⟩
    have := h.cellAt k (by omega)
    rw [Nat.zero_add, this]
    simp [bcs, hk]
end

theorem bcs_length (l : List UInt8) : (bcs l).length = l.length := by simp [bcs]
theorem bcs_append (l m : List UInt8) : bcs (l ++ m) = bcs l ++ bcs m := by simp [bcs]
theorem bcs_one (l : List UInt8) : ∀ u ∈ bcs l, u.oneCell' = true := by
  intro u hu
  obtain ⟨_, _, rfl⟩ := List.mem_map.1 hu
  rfl
end Go.Proofs.Yteoikfjjlpcicaa
