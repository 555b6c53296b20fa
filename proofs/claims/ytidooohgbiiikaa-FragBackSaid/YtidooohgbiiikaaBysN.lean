/- Slices of slices of bytes that a region builds. No program in sight. -/
import Derived.Test.YtidooohgbiiikaaRefJoin
namespace Go.Proofs.Ytidooohgbiiikaa
open Go.RowKit
set_option linter.unusedVariables false
def Al (w : World) : List Value → List (List UInt8) → Prop
  | [], [] => True
  | v :: vs, l :: ls => Byt w v l ∧ Al w vs ls
  | _, _ => False
theorem Al.on0 {w w' : World} (hk : Kept (fun _ => False) w w') : ∀ {vs : List Value} {ls : List (List UInt8)}, Al w vs ls → Al w' vs ls
  | [], [], _ => trivial
  | _ :: _, _ :: _, h => ⟨h.1.on0 hk, Al.on0 hk h.2⟩
  | [], _ :: _, h => h.elim
  | _ :: _, [], h => h.elim
theorem Al.len {w : World} : ∀ {vs : List Value} {ls : List (List UInt8)}, Al w vs ls → vs.length = ls.length
  | [], [], _ => rfl
  | _ :: _, _ :: _, h => by simp [Al.len h.2]
  | [], _ :: _, h => h.elim
  | _ :: _, [], h => h.elim
theorem Al.get {w : World} : ∀ {vs : List Value} {ls : List (List UInt8)}, Al w vs ls → ∀ k (h : k < vs.length) (h' : k < ls.length), Byt w vs[k] ls[k]
  | [], [], _, k, h, _ => by simp at h
  | _ :: _, _ :: _, ha, 0, _, _ => ha.1
  | _ :: vs, _ :: ls, ha, k + 1, h, h' => by simpa using Al.get ha.2 k (by simpa using h) (by simpa using h')
  | [], _ :: _, h, _, _, _ => h.elim
  | _ :: _, [], h, _, _, _ => h.elim
theorem Al.some : ∀ (ls : List (List UInt8)) (w : World), (∀ l ∈ ls, l.length ≤ maxLen) → ∃ vs u, Kept (fun _ => False) w u ∧ Al u vs ls
  | [], w, _ => ⟨[], w, Kept.refl _ _, trivial⟩
  | l :: ls, w, h => by
    obtain ⟨vs, u, h1, h2⟩ := Al.some ls w (fun x hx => h x (by simp [hx]))
    obtain ⟨v, u2, h3, h4⟩ := Byt.some (S := fun _ => False) u l (h l (by simp))
    exact ⟨v :: vs, u2, h1.trans h3, h4, h2.on0 h3⟩
def BysN (n : Nat) (u : World) (v : Value) (ls : List (List UInt8)) : Prop := ∃ g vs, v = .slice (some ⟨g, 0, none⟩) n n ∧ vs.length = n ∧ Bys u g vs ls
theorem Al.bys {w : World} {g t : Nat} {vs : List Value} {ls : List (List UInt8)} (h : Al w vs ls) (hb : Blk w g t vs.toArray) : Bys w g vs ls :=
  ⟨h.len, hb.lt, fun k h1 h2 => ⟨by rw [hb.cell k]; simp [h1], h.get k h1 h2⟩⟩
theorem BysN.on0 {n : Nat} {u u' : World} {v : Value} {ls : List (List UInt8)} (h : BysN n u v ls) (hk : Kept (fun _ => False) u u') : BysN n u' v ls := by
  obtain ⟨g, vs, e, hn, h1, h2, h3⟩ := h
  exact ⟨g, vs, e, hn, h1, Nat.lt_of_lt_of_le h2 hk.size, fun k a b => ⟨(hk.cell h2 (fun h => h) _).trans (h3 k a b).1, (h3 k a b).2.on0 hk⟩⟩
theorem BysN.some (w : World) (n : Nat) (ls : List (List UInt8)) (hn : ls.length = n) (h : ∀ l ∈ ls, l.length ≤ maxLen) : ∃ v u, Kept (fun _ => False) w u ∧ BysN n u v ls := by
  obtain ⟨vs, u, h1, h2⟩ := Al.some ls w h
  exact ⟨_, _, h1.alloc (.cells vs.toArray 0), u.heap.size, vs, rfl, by rw [h2.len, hn], (h2.on0 ((Kept.refl _ _).alloc _)).bys (Blk.new _ _ _)⟩
end Go.Proofs.Ytidooohgbiiikaa
