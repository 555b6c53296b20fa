/- Words on slices of bytes: a slice that holds the bytes l, nil let in. -/
import Derived.Test.YthfdhggcnkgjfaaDoorBase
import Derived.Maps.AppendAt
import Derived.Deep.AppendLies
namespace Go.Proofs.YthfdhggcnkgjfaaDoor
open Go.RowKit

/-- The cells from ⟨b, off⟩ on hold the bytes l. -/
def BytesAt (w : World) (b off : Nat) (l : List UInt8) : Prop := ∀ k (h : k < l.length), w.cell? ⟨b, off + k, none⟩ = some (.int .u8 (l[k].toNat : Int))
/-- A slice's address, below block B, leads to the bytes l; of none nothing is asked. -/
def BS (w : World) (B : Nat) (A : Option Addr) (l : List UInt8) : Prop := l = [] ∨ ∃ b off, b < B ∧ A = some ⟨b, off, none⟩ ∧ BytesAt w b off l
/-- The bytes as cells. -/
def bcs (l : List UInt8) : List Value := l.map fun x => Value.int .u8 (x.toNat : Int)

theorem byte_lt (x : UInt8) : (x.toNat : Int) < 256 := by have := x.toNat_lt; omega
theorem byte_le (x : UInt8) : (x.toNat : Int) ≤ 255 := by have := x.toNat_lt; omega

section
variable {w w' : World} {b off B B' : Nat} {A : Option Addr} {l : List UInt8}
theorem BytesAt.keep (h : BytesAt w b off l) (hk : ∀ o, w'.cell? ⟨b, o, none⟩ = w.cell? ⟨b, o, none⟩) : BytesAt w' b off l := fun k hk' => (hk _).trans (h k hk')
theorem BytesAt.kept {S : Nat → Prop} (h : BytesAt w b off l) (hk : Kept S w w') (hb : b < w.heap.size) (hS : ¬ S b) : BytesAt w' b off l := h.keep fun o => hk.cell hb hS o
theorem BytesAt.below (h : BytesAt w b off l) (hk : Below B w w') (hb : b < B) : BytesAt w' b off l := h.keep fun o => hk.cell (p := ⟨b, o, none⟩) hb
theorem BytesAt.alloc (h : BytesAt w b off l) (hb : b < w.heap.size) (o : Obj) : BytesAt (w.alloc o) b off l := h.keep fun _ => World.cell?_alloc_lt _ _ _ hb
theorem BytesAt.far {p : Addr} (h : BytesAt w b off l) (hb : b ≠ p.block) (u : Value) : BytesAt (w.setCell p u) b off l :=
  h.keep fun _ => World.cell?_setCell_other _ _ _ _ fun e => hb (by rw [e])
theorem BytesAt.drewN (h : BytesAt w b off l) (n : Nat) : BytesAt (w.drewN n) b off l := h
theorem BytesAt.drew (h : BytesAt w b off l) : BytesAt w.drew b off l := h
theorem BytesAt.drop (h : BytesAt w b off l) (k : Nat) : BytesAt w b (off + k) (l.drop k) := fun j hj => by
  have hj' : k + j < l.length := by rw [List.length_drop] at hj; omega
  have := h (k + j) hj'
  rw [List.getElem_drop, Nat.add_assoc]
  exact this
theorem BytesAt.take (h : BytesAt w b off l) (k : Nat) : BytesAt w b off (l.take k) := fun j hj => by
  have hj' : j < l.length := by rw [List.length_take] at hj; omega
  rw [List.getElem_take]
  exact h j hj'
theorem BytesAt.nil : BytesAt w b off [] := fun k hk => absurd hk (by simp)

theorem BS.nil : BS w B A [] := .inl rfl
theorem BS.keep (h : BS w B A l) (hk : ∀ b o, b < B → w'.cell? ⟨b, o, none⟩ = w.cell? ⟨b, o, none⟩) : BS w' B A l := by
  rcases h with h | ⟨b, off, hb, h1, h2⟩
  · exact .inl h
  · exact .inr ⟨b, off, hb, h1, h2.keep fun o => hk b o hb⟩
theorem BS.kept {S : Nat → Prop} (h : BS w B A l) (hk : Kept S w w') (hB : B ≤ w.heap.size) (hS : ∀ i, i < B → ¬ S i) : BS w' B A l := h.keep fun b o hb => hk.cell (by omega) (hS b hb) o
theorem BS.below (h : BS w B A l) (hk : Below B w w') : BS w' B A l := h.keep fun _ _ hb => hk.cell hb
theorem BS.belowLe {C : Nat} (h : BS w B A l) (hk : Below C w w') (hC : B ≤ C) : BS w' B A l := h.keep fun b o hb => hk.cell (p := ⟨b, o, none⟩) (Nat.lt_of_lt_of_le hb hC)
theorem BS.more (h : BS w B A l) (hB : B ≤ B') : BS w B' A l := by
  rcases h with h | ⟨b, off, hb, h1, h2⟩
  · exact .inl h
  · exact .inr ⟨b, off, by omega, h1, h2⟩
theorem BS.at (h : BS w B A l) {k : Nat} (hk : k < l.length) : ∃ b off, b < B ∧ A = some ⟨b, off, none⟩ ∧ BytesAt w b off l := by
  rcases h with rfl | h
  · simp at hk
  · exact h
theorem BS.alloc (h : BS w B A l) (hB : B ≤ w.heap.size) (o : Obj) : BS (w.alloc o) B A l := h.keep fun _ _ hb => World.cell?_alloc_lt _ _ _ (Nat.lt_of_lt_of_le hb hB)
theorem BS.drewN (h : BS w B A l) (n : Nat) : BS (w.drewN n) B A l := h
theorem BS.drew (h : BS w B A l) : BS w.drew B A l := h
theorem BS.of_at (h : BytesAt w b off l) (hb : b < B) : BS w B (some ⟨b, off, none⟩) l := .inr ⟨b, off, hb, rfl, h⟩
theorem BS.of_own {base e n c : Nat} (h : w.ownsRow base e 1 (.slice A n c) n (bcs l)) : n = l.length ∧ BS w w.heap.size A l := by
  have hn : n = l.length := by have := h.1; simp [bcs] at this; omega
  subst hn
  refine ⟨rfl, ?_⟩
  by_cases h0 : l = []
  · exact .inl h0
  · obtain ⟨g, cap, hv, _, hlt⟩ := h.form (List.length_pos_iff.2 h0)
    obtain ⟨rfl, rfl⟩ : A = some ⟨g, 0, none⟩ ∧ c = cap := by simpa using hv
    refine .inr ⟨g, 0, hlt, rfl, fun k hk => ?_⟩
    have := h.cellAt k (by omega)
    rw [Nat.zero_add, this]
    simp [bcs, hk]
end

theorem BytesAt.news {w : World} {b off : Nat} {l : List UInt8} (h : BytesAt w b off l) : ∀ j u, (bcs l)[j]? = some u → w.cell? ((⟨b, off, none⟩ : Addr).add j) = some u := by
  intro j u hu
  have hj : j < l.length := by
    rcases Nat.lt_or_ge j l.length with h | h
    · exact h
    · rw [List.getElem?_eq_none (by simpa [bcs] using h)] at hu; cases hu
  rw [Addr.add_lit, h j hj]
  simpa [bcs, hj] using hu
/-- A number's byte. -/
theorem byte_of (n : Int) (h0 : 0 ≤ n) (h1 : n ≤ 255) : ∃ x : UInt8, n = (x.toNat : Int) := ⟨UInt8.ofNat n.toNat, by
  have : n.toNat < 256 := by omega
  rw [UInt8.toNat_ofNat_of_lt' (by simpa using this)]
  omega⟩

/-! ### A row of bytes of the call's own, which may be written -/
def Own (w : World) (e g cap : Nat) (l : List UInt8) : Prop := ∃ cur : Array Value, Blk w g e cur ∧ l.length ≤ cap ∧ cap ≤ maxLen ∧ cur.size = cap ∧ cur.toList.take l.length = bcs l
section
variable {w w' : World} {e g cap : Nat} {l : List UInt8}
theorem Own.lt (h : Own w e g cap l) : g < w.heap.size := by obtain ⟨cur, hb, _⟩ := h; exact hb.lt
theorem Own.frozen (h : Own w e g cap l) (i : Nat) : w.frozen? ⟨g, i, none⟩ = false := by obtain ⟨cur, hb, _⟩ := h; exact hb.frozen i
theorem Own.len (h : Own w e g cap l) : l.length ≤ cap := by obtain ⟨cur, hb, h1, _⟩ := h; exact h1
theorem Own.cell (h : Own w e g cap l) {i : Nat} (hi : i < l.length) : w.cell? ⟨g, i, none⟩ = some (.int .u8 (l[i].toNat : Int)) := by
  obtain ⟨cur, hb, h1, _, h3, h4⟩ := h
  rw [hb.cell i]
  have e1 : (cur.toList.take l.length)[i]? = (bcs l)[i]? := by rw [h4]
  rw [List.getElem?_take, if_pos hi, Array.getElem?_toList] at e1
  rw [e1]
  simp [bcs, hi]
theorem Own.bytes (h : Own w e g cap l) : BytesAt w g 0 l := fun k hk => by rw [Nat.zero_add]; exact h.cell hk
theorem Own.bs (h : Own w e g cap l) : BS w w.heap.size (some ⟨g, 0, none⟩) l := .inr ⟨g, 0, h.lt, rfl, h.bytes⟩
theorem Own.keep (h : Own w e g cap l) (hk : w'.heap[g]? = w.heap[g]?) : Own w' e g cap l := by
  obtain ⟨cur, hb, h1⟩ := h
  exact ⟨cur, hk.trans hb, h1⟩
theorem Own.kept {S : Nat → Prop} (h : Own w e g cap l) (hk : Kept S w w') (hS : ¬ S g) : Own w' e g cap l := h.keep (hk.block g h.lt hS)
theorem Own.below {B : Nat} (h : Own w e g cap l) (hk : Below B w w') (hB : g < B) : Own w' e g cap l := h.keep (hk.block g hB)
theorem Own.alloc (h : Own w e g cap l) (o : Obj) : Own (w.alloc o) e g cap l := h.keep (Below.heap_alloc w o g h.lt)
theorem Own.drew (h : Own w e g cap l) : Own w.drew e g cap l := h
theorem Own.drewN (h : Own w e g cap l) (n : Nat) : Own (w.drewN n) e g cap l := h
theorem Own.far {b o : Nat} {s : Option _} {u : Value} (h : Own w e g cap l) (hp : g ≠ b) : Own (w.setCell ⟨b, o, s⟩ u) e g cap l := h.keep (Below.heap_setCell w _ u g hp)
theorem Own.set (h : Own w e g cap l) (i : Nat) (x : UInt8) : Own (w.setCell ⟨g, i, none⟩ (.int .u8 (x.toNat : Int))) e g cap (l.set i x) := by
  obtain ⟨cur, hb, h1, h2, h3, h4⟩ := h
  refine ⟨_, hb.set_ i _, by simpa using h1, h2, by simpa using h3, ?_⟩
  rw [Array.toList_setIfInBounds, List.length_set, List.take_set, h4]
  simp [bcs, List.map_set]
theorem Own.of_own {base n c : Nat} (h : w.ownsRow base e 1 (.slice (some ⟨g, 0, none⟩) n c) n (bcs l)) : Own w e g c l ∧ n = l.length ∧ base ≤ g := by
  have hn : n = l.length := by have := h.1; simp [bcs] at this; omega
  subst hn
  rcases h.2 with ⟨h', _⟩ | ⟨g', cap', cur, h', hb, hg, h1, h2, h3, h4⟩
  · simp at h'
  · obtain ⟨rfl, rfl⟩ : g = g' ∧ c = cap' := by simpa using h'
    exact ⟨⟨cur, hg, h1, h2, by simpa using h3, by simpa using h4⟩, rfl, hb⟩
theorem Own.own {base : Nat} (h : Own w e g cap l) (hb : base ≤ g) : w.ownsRow base e 1 (.slice (some ⟨g, 0, none⟩) l.length cap) l.length (bcs l) := by
  obtain ⟨cur, hb', h1, h2, h3, h4⟩ := h
  exact ⟨by simp [bcs], .inr ⟨g, cap, cur, rfl, hb, hb', h1, h2, by simpa using h3, by simpa using h4⟩⟩
end

theorem bcs_length (l : List UInt8) : (bcs l).length = l.length := by simp [bcs]
theorem bcs_append (l m : List UInt8) : bcs (l ++ m) = bcs l ++ bcs m := by simp [bcs]
theorem bcs_one (l : List UInt8) : ∀ u ∈ bcs l, u.oneCell' = true := by
  intro u hu
  obtain ⟨_, _, rfl⟩ := List.mem_map.1 hu
  rfl
end Go.Proofs.YthfdhggcnkgjfaaDoor
