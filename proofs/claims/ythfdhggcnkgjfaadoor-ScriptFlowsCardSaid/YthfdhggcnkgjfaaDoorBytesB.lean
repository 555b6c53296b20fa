/- More words on slices of bytes: made rows, copies, conversions to strings. No program in sight. -/
import Derived.Test.YthfdhggcnkgjfaaDoorBytes
import Derived.Test.YthfdhggcnkgjfaaDoorRow
import Derived.Laws.CopyOwn
import Derived.Laws.BytesArg
import Derived.Deep.OwnRows
namespace Go.Proofs.YthfdhggcnkgjfaaDoor
open Go.RowKit

theorem bcs_get (l : List UInt8) (i : Nat) : (bcs l)[i]? = (l[i]?).map fun x => Value.int .u8 (x.toNat : Int) := by simp [bcs]
theorem madeCells_bytes (n : Nat) : madeCells #[.int .u8 0] n = (bcs (List.replicate n 0)).toArray := by
  apply Array.ext
  · simp [bcs, size_madeCells]
  · intro i h1 h2
    simp [madeCells, bcs, Nat.mod_one]
theorem splice_bytes (m x : List UInt8) (off : Nat) : splice (bcs m) off (bcs x) = bcs (m.take off ++ (x ++ m.drop (off + x.length))) := by
  simp [splice, bcs]
section
variable {w w' : World} {B e g cap off : Nat} {A : Option Addr} {l : List UInt8}
theorem Own.of_blk (h : Blk w g e (bcs l).toArray) (hl : l.length ≤ maxLen) : Own w e g l.length l :=
  ⟨_, h, Nat.le_refl _, hl, by simp [bcs_length], by simp [bcs_length, List.take_of_length_le]⟩
theorem Own.full (h : Own w e g l.length l) : Blk w g e (bcs l).toArray := by
  obtain ⟨cur, hb, _, _, h3, h4⟩ := h
  have : cur = (bcs l).toArray := by
    rw [List.take_of_length_le (by simp [h3])] at h4
    rw [← h4]
  rw [← this]; exact hb
theorem BS.news (h : BS w B A l) (hp : 0 < (bcs l).length) : ∃ ad, A = some ad ∧ ∀ j v, (bcs l)[j]? = some v → w.cell? (ad.add j) = some v := by
  obtain ⟨b, o, _, rfl, h2⟩ := h.at (k := 0) (by simpa [bcs_length] using hp)
  exact ⟨_, rfl, h2.news⟩
theorem BS.drop_ (h : BS w B (some ⟨g, off, none⟩) l) (k : Nat) : BS w B (some ⟨g, off + k, none⟩) (l.drop k) := by
  rcases h with rfl | ⟨b, o, hb, e, h2⟩
  · exact .inl (by simp)
  · injection e with e; injection e with e1 e2; subst e1 e2
    exact .inr ⟨g, off + k, hb, rfl, h2.drop k⟩
theorem BS.take_ (h : BS w B A l) (k : Nat) : BS w B A (l.take k) := by
  rcases h with rfl | ⟨b, o, hb, e, h2⟩
  · exact .inl (by simp)
  · exact .inr ⟨b, o, hb, e, h2.take k⟩
/-- 'string(b)'. -/
theorem BS.conv {P : Program} {src dst et c : Nat} (h : BS w B A l) (hs : P.underlying src = some (.slice et)) (he : P.underlying et = some (.int .u8)) (hd : P.underlying dst = some .string) :
    (convert src dst (.slice A l.length c)).run P w = .ok (.string ⟨l.toArray⟩) w := by
  rcases h with rfl | ⟨b, o, hb, rfl, h2⟩
  · cases A with
    | none => exact run_convert_bytes_nil w src et hs he 0 c dst hd
    | some a =>
      have := run_bytesToString (P := P) w a 0 c [] (by simp [loadCells]; rfl)
      show (convert src dst (.slice (some a) 0 c)).run P w = _
      rw [run_convert_bytes_string w src dst et _ 0 c hs he hd, this]
      rfl
  · have := run_convert_bytes_arg (P := P) w src et hs he b o l.length c (l.map fun x => (x.toNat : Int)) (by simp) (fun i hi => by
      rw [h2 i hi]; simp [List.getD_eq_getElem?_getD, hi]) dst hd
    rw [this]
    congr 2
    unfold strOfNums
    congr 1
    apply Array.ext
    · simp
    · intro i h1 h2; simp
end

/-- The value v is a slice of bytes that reads as l. -/
def Byt (w : World) (v : Value) (l : List UInt8) : Prop := ∃ A c, v = .slice A l.length c ∧ l.length ≤ c ∧ c ≤ maxLen ∧ BS w w.heap.size A l
section
variable {w w' : World} {e base : Nat} {v : Value} {l : List UInt8} {A : Option Addr} {c n : Nat}
theorem BS.on {S : Nat → Prop} (h : BS w w.heap.size A l) (hk : Kept S w w') (hS : ∀ i, i < w.heap.size → ¬ S i) : BS w' w'.heap.size A l := (h.kept hk (Nat.le_refl _) hS).more hk.size
theorem BS.onB {B : Nat} (h : BS w w.heap.size A l) (hk : Below B w w') (hB : w.heap.size ≤ B) : BS w' w'.heap.size A l := (h.belowLe hk hB).more hk.size
theorem Byt.on {S : Nat → Prop} (h : Byt w v l) (hk : Kept S w w') (hS : ∀ i, i < w.heap.size → ¬ S i) : Byt w' v l := by
  obtain ⟨A, c, rfl, h1, h2, h3⟩ := h
  exact ⟨A, c, rfl, h1, h2, h3.on hk hS⟩
theorem Byt.on0 (h : Byt w v l) (hk : Kept (fun _ => False) w w') : Byt w' v l := h.on hk (fun _ _ h => h)
theorem Byt.onB (h : Byt w v l) (hk : Below w.heap.size w w') : Byt w' v l := by
  obtain ⟨A, c, rfl, h1, h2, h3⟩ := h
  exact ⟨A, c, rfl, h1, h2, h3.onB hk (Nat.le_refl _)⟩
theorem Byt.nil (w : World) : Byt w (.slice none 0 0) [] := ⟨none, 0, rfl, by simp, by simp, .nil⟩
theorem Own.byt {g cap : Nat} (h : Own w e g cap l) : Byt w (.slice (some ⟨g, 0, none⟩) l.length cap) l := by
  have h2 := h.bs
  obtain ⟨_, _, h3, h4, _⟩ := h
  exact ⟨_, _, rfl, h3, h4, h2⟩
theorem Row.byt (h : Row w base e v (bcs l)) : Byt w v l := by
  obtain ⟨A, c, rfl, h1, h2⟩ := h.shape
  rw [bcs_length] at h1 ⊢
  have h' : w.ownsRow base e 1 (.slice A l.length c) l.length (bcs l) := by
    have : Row w base e (.slice A l.length c) (bcs l) := by rwa [bcs_length] at h
    unfold Row at this
    rwa [bcs_length] at this
  exact ⟨A, c, rfl, h1, h2, (BS.of_own h').2⟩
theorem Byt.some {S : Nat → Prop} (w : World) (l : List UInt8) (h : l.length ≤ maxLen) : ∃ v u, Kept S w u ∧ Byt u v l :=
  ⟨_, _, (Kept.refl _ _).alloc _, (Own.of_blk (e := 0) (Blk.new w 0 (bcs l).toArray) h).byt⟩
theorem BS.src {B : Nat} (h : BS w B A l) : Src w A (bcs l) := by
  rcases h with rfl | ⟨b, o, _, rfl, h2⟩
  · exact .inl rfl
  · exact .inr ⟨_, rfl, h2.news⟩
theorem Row.own {g c : Nat} (h : Row w base e (.slice (some ⟨g, 0, none⟩) n c) (bcs l)) : Own w e g c l ∧ n = l.length ∧ base ≤ g := by
  have hn : n = l.length := by obtain ⟨A, c', e1, _⟩ := h.shape; injection e1 with _ e1; rw [e1, bcs_length]
  subst hn
  have h' : w.ownsRow base e 1 (.slice (some ⟨g, 0, none⟩) l.length c) l.length (bcs l) := by
    unfold Row at h; rwa [bcs_length] at h
  have := Own.of_own h'
  exact ⟨this.1, rfl, this.2.2⟩
end
end Go.Proofs.YthfdhggcnkgjfaaDoor
