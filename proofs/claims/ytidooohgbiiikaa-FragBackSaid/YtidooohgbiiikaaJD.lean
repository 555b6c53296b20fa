/- Rows of headers and of loads; an insertion into them. -/
import Derived.Test.YtidooohgbiiikaaJB
import Derived.Test.YtidooohgbiiikaaI
import Derived.Test.YtidooohgbiiikaaRgLax
import Derived.Test.YtidooohgbiiikaaRgF
import Derived.Test.YtidooohgbiiikaaSetAll
import Derived.Deep.RegionHeld
namespace Go.Proofs.Ytidooohgbiiikaa
open Go.RowKit
set_option linter.unusedVariables false
theorem Try.info41r : (Try.prog.info? 41).map (fun i => (i.zero, i.size, i.bytes)) = some (some (.agg #[.int .u8 0, .int .i64 0, .int .u16 0, .bool false, .bool false, .int .i64 0, .int .u8 0, .int .u8 0, .int .u16 0, .bool false, .int .u64 0, .int .u64 0, .bool false, .int .u64 0, .int .u64 0, .slice none 0 0]), 16, 112) := by kernel_rfl
def RH (w : World) (base : Nat) (x : List Value) (p : Pt) : Prop := ∃ v, x = (p.hd.cells v).toList ∧ Row w base 5 v (bcs p.hd.opts)
def RL (w : World) (base : Nat) (x : List Value) (p : Pt) : Prop := ∃ u, x = [u] ∧ Row w base 5 u (bcs p.ld)
section
variable {w w' : World} {base : Nat} {x : List Value} {p : Pt}
theorem RH.kept0 (h : RH w base x p) (hk : Kept (fun _ => False) w w') : RH w' base x p := by
  obtain ⟨v, rfl, h1⟩ := h
  exact ⟨v, rfl, h1.kept hk (fun _ _ h => h)⟩
theorem RL.kept0 (h : RL w base x p) (hk : Kept (fun _ => False) w w') : RL w' base x p := by
  obtain ⟨v, rfl, h1⟩ := h
  exact ⟨v, rfl, h1.kept hk (fun _ _ h => h)⟩
theorem RH.one (h : RH w base x p) : ∀ u ∈ x, u.oneCell' = true := by
  obtain ⟨v, rfl, h1⟩ := h
  obtain ⟨A, c, rfl, -, -⟩ := h1.shape
  intro u hu
  simp only [Hd.cells, List.mem_cons, List.not_mem_nil, or_false] at hu
  rcases hu with rfl | rfl | rfl | rfl | rfl | rfl | rfl | rfl | rfl | rfl | rfl | rfl | rfl | rfl | rfl | rfl <;> rfl
theorem RL.one (h : RL w base x p) : ∀ u ∈ x, u.oneCell' = true := by
  obtain ⟨v, rfl, h1⟩ := h
  obtain ⟨A, c, rfl, -, -⟩ := h1.shape
  intro u hu
  simp only [List.mem_singleton] at hu
  rw [hu]; rfl
theorem RH.off (h : RH w base x p) : x[5]! = .int .i64 (poff p) := by
  obtain ⟨v, rfl, h1⟩ := h
  rfl
end
theorem F2.ones {R : List Value → Pt → Prop} {L : List (List Value)} {P : List Pt} (h : F2 R L P) (h1 : ∀ x p, R x p → ∀ u ∈ x, u.oneCell' = true) (D : List (List Value)) (hD : ∀ x ∈ D, x ∈ L) : ∀ u ∈ D.flatten, u.oneCell' = true := by
  intro u hu
  obtain ⟨y, hy, hu⟩ := List.mem_flatten.1 hu
  obtain ⟨p, hp⟩ := h.left (hD y hy)
  exact h1 y p hp u hu
theorem rowG_is (e sz H : Nat) (w : World) (L : List (List Value)) (hL : ∀ x ∈ L, x.length = sz) (hH : H ≤ w.heap.size) (hm : L.length ≤ maxLen) : RowN (w.alloc (.cells L.flatten.toArray e)) H e sz (.slice (some ⟨w.heap.size, 0, none⟩) L.length L.length) L :=
  RowN.of_blk (Blk.new _ _ _) hH hm hL (by simp) rfl
theorem rowZG_is (e sz H : Nat) (w : World) (L : List (List Value)) (hL : ∀ x ∈ L, x.length = sz) (hH : H ≤ w.heap.size) (hm : L.length ≤ maxLen) : ∃ v u, Lax H sz w u ∧ RowZ u H e sz v L := by
  by_cases h : L = []
  · exact ⟨_, w, Lax.refl _ _ _, .inl ⟨h, 0, rfl⟩⟩
  · exact ⟨_, _, (Lax.refl _ _ _).alloc _, .inr ⟨h, rowG_is e sz H w L hL hH hm⟩⟩
theorem es_sliceG {w : World} {B b sz k : Nat} {L : List (List Value)} (h : ElAt w b 0 sz L) (hb : b < B) (hk : k ≤ L.length) : ES w B (some ⟨b, k * sz, none⟩) sz (L.drop k) :=
  .inr ⟨b, k * sz, hb, rfl, by have := h.drop k hk; rwa [Nat.zero_add] at this⟩
theorem es_slice1 {w : World} {B b k : Nat} {L : List (List Value)} (h : ElAt w b 0 1 L) (hb : b < B) (hk : k ≤ L.length) : ES w B (some ⟨b, k, none⟩) 1 (L.drop k) := by
  have := es_sliceG h hb hk
  rwa [Nat.mul_one] at this
theorem Blk.laxH {a w : World} {H M g : Nat} {t : TypeId} {cs : Array Value} (h : Blk a g t cs) (hk : Lax H M a w) (hn : g < H) : Blk w g t cs := (hk.block g h.lt (.inl hn)).trans h
theorem ES.laxG {w w' : World} {H M : Nat} {A : Option Addr} {sz : Nat} {L : List (List Value)} (h : ES w H A sz L) (hsz : 0 < sz) (hk : Lax H M w w') : ES w' H A sz L := by
  rcases h with h | ⟨b, off, hb, h1, h2⟩
  · exact .inl h
  · exact .inr ⟨b, off, hb, h1, h2.1, fun j u hu => by
      have e := h2.2 j u hu
      rw [hk.cell (b := b) (World.block_lt_of_cell? w _ e) hb]
      exact e⟩
theorem mem_take_drop {α : Type} {L : List α} {x : α} {q : Nat} : (x ∈ L.take q → x ∈ L) ∧ (x ∈ L.drop q → x ∈ L) := ⟨List.mem_of_mem_take, List.mem_of_mem_drop⟩
theorem sins_cut {p : Pt} {P : List Pt} {q : Nat} (hs : Srt poff P) (hq : q ≤ P.length) (h1 : ∀ j (h : j < P.length), q ≤ j → poff p < poff P[j]) (h2 : q = 0 ∨ ∃ h : q - 1 < P.length, poff P[q - 1] ≤ poff p) : P.take q ++ [p] ++ P.drop q = sins poff p P := by
  have e : sins poff p (P.take q ++ P.drop q) = P.take q ++ p :: P.drop q := by
    refine sins_at p _ _ (fun y hy => ?_) (fun y hy => ?_)
    · obtain ⟨i, hi, rfl⟩ := List.mem_iff_getElem.1 hy
      have hi' := hi
      rw [List.length_take] at hi
      rw [List.getElem_take]
      rcases h2 with rfl | ⟨h, h2⟩
      · omega
      · by_cases hiq : i = q - 1
        · subst hiq; exact h2
        · have := List.pairwise_iff_getElem.1 hs i (q - 1) (by omega) h (by omega)
          omega
    · obtain ⟨i, hi, rfl⟩ := List.mem_iff_getElem.1 hy
      rw [List.getElem_drop]
      exact h1 _ _ (by omega)
  rw [List.take_append_drop] at e
  rw [e]; simp
theorem F2.insert {α β : Type} {R : α → β → Prop} {xs : List α} {bs : List β} {a : α} {b : β} (h : F2 R xs bs) (hab : R a b) (q : Nat) : F2 R (xs.take q ++ [a] ++ xs.drop q) (bs.take q ++ [b] ++ bs.drop q) := ((h.take q).append (.one hab)).append (h.drop q)
theorem ins_len {α : Type} {L : List α} {x : α} {q : Nat} (hq : q ≤ L.length) : (L.take q ++ [x] ++ L.drop q).length = L.length + 1 := by simp; omega
theorem Try.alloc41 (o : Oper) (ho : o.op = .alloc 41) : FreshOp Try.prog o := FreshOp.of fun a w => ⟨.cells #[.int .u8 0, .int .i64 0, .int .u16 0, .bool false, .bool false, .int .i64 0, .int .u8 0, .int .u8 0, .int .u16 0, .bool false, .int .u64 0, .int .u64 0, .bool false, .int .u64 0, .int .u64 0, .slice none 0 0] 41, by
  unfold execOp
  simp only [ho]
  rfl⟩
end Go.Proofs.Ytidooohgbiiikaa
namespace Go.Proofs.Ytidooohgbiiikaa
open Go.RowKit
set_option linter.unusedVariables false
def KS (w u : World) : Prop := Kept (fun _ => False) w u
theorem KS.out {w u : World} (h : KS w u) : Kept (fun _ => False) w u := h
theorem ElAt.range {w : World} {b sz : Nat} {L : List (List Value)} (h : ElAt w b 0 sz L) {k : Nat} (hk : k < L.length) : w.rangeAt b (k * sz) L[k] := by
  intro j v hv
  have hl := h.1 _ (List.getElem_mem hk)
  have hj : j < sz := by rw [← hl]; exact (List.getElem?_eq_some_iff.1 hv).1
  have := h.get hk j hj
  rw [Nat.zero_add] at this
  rw [this]
  have e : L[k][j]! = v := by
    obtain ⟨h1, h2⟩ := List.getElem?_eq_some_iff.1 hv
    rw [List.getElem!_eq_getElem?_getD, hv]; rfl
  rw [e]
theorem RH.more {w : World} {base : Nat} {x : List Value} {p : Pt} (h : RH w base x p) : x[4]! = .bool p.hd.more := by
  obtain ⟨v, rfl, h1⟩ := h
  rfl
theorem rangeK {w u : World} {b o : Nat} {cs : List Value} (h : w.rangeAt b o cs) (hk : Kept (fun _ => False) w u) (hb : b < w.heap.size) : u.rangeAt b o cs := by
  intro j v hv
  rw [hk.cell hb (fun h => h)]
  exact h j v hv
/-- Two new blocks, filled. -/
structure Two2 (w u : World) (p q : Nat) (t : TypeId) (C D : Array Value) : Prop where
  pb : Blk u p t C
  qb : Blk u q t D
  kept : Kept (fun _ => False) w u
theorem Two2.of {w u v : World} {p q : Nat} {t : TypeId} {C D X Y : Array Value} (hk : Kept (fun _ => False) w u) (hp : Blk u p t X) (hq : Blk u q t Y) (hne : p ≠ q) (hpw : w.heap.size ≤ p) (hqw : w.heap.size ≤ q) (hC : X.size = C.size) (hD : Y.size = D.size)
    (hv : v = (u.setCells p 0 C.toList).setCells q 0 D.toList) : Two2 w v p q t C D := by
  subst hv
  have k1 : Kept (fun i => i = p) u (u.setCells p 0 C.toList) := Kept.setCells (S := fun i => i = p) rfl _ _ (Kept.refl _ _)
  have k2 : Kept (fun i => i = q) (u.setCells p 0 C.toList) ((u.setCells p 0 C.toList).setCells q 0 D.toList) := Kept.setCells (S := fun i => i = q) rfl _ _ (Kept.refl _ _)
  have b1 := hp.setAll C hC
  have b2 := hq.kept k1 (fun e => hne e.symm)
  exact ⟨b1.kept k2 (fun e => hne e), b2.setAll D hD, (hk.then k1 (fun i hi e => by omega)).then k2 (fun i hi e => by omega)⟩
end Go.Proofs.Ytidooohgbiiikaa
