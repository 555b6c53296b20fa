/- A stable sort by insertion, and what merges are of it. Plain Lean. -/
import Derived.Deep.Light
namespace Go.Proofs.Ytidooohgbiiikaa
section
variable {α : Type} (key : α → Int)
def sins (x : α) : List α → List α
  | [] => [x]
  | y :: l => if key x < key y then x :: y :: l else y :: sins x l
def mrg (U V : List α) : List α := V.foldl (fun acc v => sins key v acc) U
def isort (l : List α) : List α := mrg key [] l
def Srt (l : List α) : Prop := l.Pairwise (fun a b => key a ≤ key b)
variable {key}
theorem mem_sins {x y : α} {l : List α} : y ∈ sins key x l ↔ y = x ∨ y ∈ l := by
  induction l with
  | nil => simp [sins]
  | cons z l ih =>
    unfold sins
    split
    · simp
    · simp only [List.mem_cons, ih]
      constructor
      · rintro (h | h | h)
        · exact .inr (.inl h)
        · exact .inl h
        · exact .inr (.inr h)
      · rintro (h | h | h)
        · exact .inr (.inl h)
        · exact .inl h
        · exact .inr (.inr h)
theorem sins_length (x : α) (l : List α) : (sins key x l).length = l.length + 1 := by
  induction l with
  | nil => rfl
  | cons z l ih => unfold sins; split <;> simp [ih]
theorem sins_left (x : α) (A B : List α) (h : ∀ y ∈ B, key x < key y) : sins key x (A ++ B) = sins key x A ++ B := by
  induction A with
  | nil =>
    cases B with
    | nil => rfl
    | cons b B => show sins key x (b :: B) = x :: b :: B; unfold sins; rw [if_pos (h b (by simp))]
  | cons a A ih =>
    show sins key x (a :: (A ++ B)) = sins key x (a :: A) ++ B
    unfold sins
    split
    · rfl
    · rw [ih]; rfl
theorem sins_right (x : α) (A B : List α) (h : ∀ y ∈ A, key y ≤ key x) : sins key x (A ++ B) = A ++ sins key x B := by
  induction A with
  | nil => rfl
  | cons a A ih =>
    show sins key x (a :: (A ++ B)) = a :: (A ++ sins key x B)
    have := h a (by simp)
    rw [show sins key x (a :: (A ++ B)) = a :: sins key x (A ++ B) by rw [sins, if_neg (by omega)], ih fun y hy => h y (by simp [hy])]
theorem sins_at (x : α) (A B : List α) (hA : ∀ y ∈ A, key y ≤ key x) (hB : ∀ y ∈ B, key x < key y) : sins key x (A ++ B) = A ++ x :: B := by
  rw [sins_right x A B hA]
  have := sins_left x [] B hB
  rw [List.nil_append] at this
  rw [this]; rfl
theorem srt_sins {x : α} {l : List α} (h : Srt key l) : Srt key (sins key x l) := by
  induction l with
  | nil => simp [sins, Srt]
  | cons z l ih =>
    unfold Srt at *
    rw [List.pairwise_cons] at h
    unfold sins
    split
    · rename_i hx
      rw [List.pairwise_cons]
      refine ⟨fun y hy => ?_, List.pairwise_cons.2 h⟩
      rcases List.mem_cons.1 hy with rfl | hy
      · omega
      · have := h.1 y hy; omega
    · rename_i hx
      rw [List.pairwise_cons]
      refine ⟨fun y hy => ?_, ih h.2⟩
      rcases mem_sins.1 hy with rfl | hy
      · omega
      · exact h.1 y hy
theorem sins_comm (x y : α) (hne : key x ≠ key y) (l : List α) : sins key x (sins key y l) = sins key y (sins key x l) := by
  induction l with
  | nil =>
    simp only [sins]
    by_cases h : key x < key y
    · rw [if_pos h, if_neg (by omega)]
    · rw [if_neg h, if_pos (by omega)]
  | cons z l ih =>
    by_cases h1 : key x < key z <;> by_cases h2 : key y < key z
    · rw [show sins key y (z :: l) = y :: z :: l by rw [sins, if_pos h2], show sins key x (z :: l) = x :: z :: l by rw [sins, if_pos h1]]
      by_cases h : key x < key y
      · rw [show sins key x (y :: z :: l) = x :: y :: z :: l by rw [sins, if_pos h], show sins key y (x :: z :: l) = x :: sins key y (z :: l) by rw [sins, if_neg (by omega)], show sins key y (z :: l) = y :: z :: l by rw [sins, if_pos h2]]
      · rw [show sins key x (y :: z :: l) = y :: sins key x (z :: l) by rw [sins, if_neg h], show sins key x (z :: l) = x :: z :: l by rw [sins, if_pos h1], show sins key y (x :: z :: l) = y :: x :: z :: l by rw [sins, if_pos (by omega)]]
    · rw [show sins key y (z :: l) = z :: sins key y l by rw [sins, if_neg h2], show sins key x (z :: l) = x :: z :: l by rw [sins, if_pos h1],
        show sins key x (z :: sins key y l) = x :: z :: sins key y l by rw [sins, if_pos h1], show sins key y (x :: z :: l) = x :: sins key y (z :: l) by rw [sins, if_neg (by omega)], show sins key y (z :: l) = z :: sins key y l by rw [sins, if_neg h2]]
    · rw [show sins key y (z :: l) = y :: z :: l by rw [sins, if_pos h2], show sins key x (z :: l) = z :: sins key x l by rw [sins, if_neg h1],
        show sins key x (y :: z :: l) = y :: sins key x (z :: l) by rw [sins, if_neg (by omega)], show sins key x (z :: l) = z :: sins key x l by rw [sins, if_neg h1], show sins key y (z :: sins key x l) = y :: z :: sins key x l by rw [sins, if_pos h2]]
    · rw [show sins key y (z :: l) = z :: sins key y l by rw [sins, if_neg h2], show sins key x (z :: l) = z :: sins key x l by rw [sins, if_neg h1],
        show sins key x (z :: sins key y l) = z :: sins key x (sins key y l) by rw [sins, if_neg h1], show sins key y (z :: sins key x l) = z :: sins key y (sins key x l) by rw [sins, if_neg h2], ih]
theorem mrg_snoc (U V : List α) (x : α) : mrg key U (V ++ [x]) = sins key x (mrg key U V) := by simp [mrg]
theorem mrg_append (U V W : List α) : mrg key U (V ++ W) = mrg key (mrg key U V) W := List.foldl_append ..
theorem mrg_cons (U V : List α) (x : α) : mrg key U (x :: V) = mrg key (sins key x U) V := rfl
theorem mrg_nil (U : List α) : mrg key U [] = U := rfl
theorem mem_mrg {y : α} {U V : List α} : y ∈ mrg key U V ↔ y ∈ U ∨ y ∈ V := by
  induction V generalizing U with
  | nil => simp [mrg]
  | cons v V ih =>
    rw [mrg_cons, ih, mem_sins, List.mem_cons]
    constructor
    · rintro ((h | h) | h)
      · exact .inr (.inl h)
      · exact .inl h
      · exact .inr (.inr h)
    · rintro (h | h | h)
      · exact .inl (.inr h)
      · exact .inl (.inl h)
      · exact .inr h
theorem mrg_length (U V : List α) : (mrg key U V).length = U.length + V.length := by
  induction V generalizing U with
  | nil => rfl
  | cons v V ih => rw [mrg_cons, ih, sins_length, List.length_cons]; omega
theorem srt_mrg {U : List α} (V : List α) (h : Srt key U) : Srt key (mrg key U V) := by
  induction V generalizing U with
  | nil => exact h
  | cons v V ih => exact ih (srt_sins h)
theorem srt_isort (l : List α) : Srt key (isort key l) := srt_mrg l List.Pairwise.nil
theorem mem_isort {y : α} {l : List α} : y ∈ isort key l ↔ y ∈ l := by simp [isort, mem_mrg]
theorem isort_length (l : List α) : (isort key l).length = l.length := by simp [isort, mrg_length]
theorem mrg_left (U2 V1 : List α) : ∀ U1 : List α, (∀ v ∈ V1, ∀ u ∈ U2, key v < key u) → mrg key (U1 ++ U2) V1 = mrg key U1 V1 ++ U2 := by
  induction V1 with
  | nil => intro U1 _; rfl
  | cons v V1 ih =>
    intro U1 h
    rw [mrg_cons, mrg_cons, sins_left v U1 U2 (h v (by simp)), ih _ fun a ha => h a (by simp [ha])]
theorem mrg_right (X V2 : List α) : ∀ U2 : List α, (∀ v ∈ V2, ∀ x ∈ X, key x ≤ key v) → mrg key (X ++ U2) V2 = X ++ mrg key U2 V2 := by
  induction V2 with
  | nil => intro U2 _; rfl
  | cons v V2 ih =>
    intro U2 h
    rw [mrg_cons, mrg_cons, sins_right v X U2 (h v (by simp)), ih _ fun a ha => h a (by simp [ha])]
/-- A merge falls in two. -/
theorem mrg_split (U1 U2 V1 V2 : List α) (h1 : ∀ u ∈ U1, ∀ v ∈ V2, key u ≤ key v) (h2 : ∀ v ∈ V1, ∀ u ∈ U2, key v < key u) (h3 : ∀ x ∈ V1, ∀ y ∈ V2, key x ≤ key y) :
    mrg key (U1 ++ U2) (V1 ++ V2) = mrg key U1 V1 ++ mrg key U2 V2 := by
  rw [mrg_append, mrg_left U2 V1 U1 h2, mrg_right _ V2 U2 fun v hv x hx => ?_]
  rcases mem_mrg.1 hx with h | h
  · exact h1 x h v hv
  · exact h3 x h v hv
theorem isort_srt {l : List α} (h : Srt key l) : isort key l = l := by
  have : ∀ (V U : List α), Srt key (U ++ V) → mrg key U V = U ++ V := by
    intro V
    induction V with
    | nil => intro U _; simp [mrg]
    | cons v V ih =>
      intro U h
      have hU : sins key v U = U ++ [v] := by
        have := sins_right v U [] (fun y hy => (List.pairwise_append.1 h).2.2 y hy v (by simp))
        rw [List.append_nil] at this
        rw [this]; rfl
      rw [mrg_cons, hU, ih _ (by rw [List.append_assoc]; exact h), List.append_assoc]; rfl
  exact this l [] h
theorem mrg_srt {V : List α} (h : Srt key V) : mrg key [] V = V := isort_srt h
theorem sins_parts {l : List α} (x : α) (h : Srt key l) : ∃ l1 l2, l = l1 ++ l2 ∧ sins key x l = l1 ++ x :: l2 ∧ ∀ y ∈ l2, key x < key y := by
  induction l with
  | nil => exact ⟨[], [], rfl, rfl, fun y hy => by cases hy⟩
  | cons z l ih =>
    unfold Srt at h
    rw [List.pairwise_cons] at h
    by_cases hx : key x < key z
    · refine ⟨[], z :: l, rfl, by rw [sins, if_pos hx]; rfl, fun y hy => ?_⟩
      rcases List.mem_cons.1 hy with rfl | hy
      · exact hx
      · have := h.1 y hy; omega
    · obtain ⟨l1, l2, e1, e2, e3⟩ := ih h.2
      exact ⟨z :: l1, l2, by rw [e1]; rfl, by rw [sins, if_neg hx, e2]; rfl, e3⟩
theorem mrg_pull (x : α) (l2 : List α) : ∀ U : List α, (∀ y ∈ l2, key x < key y) → mrg key (sins key x U) l2 = sins key x (mrg key U l2) := by
  induction l2 with
  | nil => intro U _; rfl
  | cons y l2 ih =>
    intro U h
    have := h y (by simp)
    rw [mrg_cons, mrg_cons, sins_comm y x (by omega), ih _ fun a ha => h a (by simp [ha])]
theorem mrg_sins (U : List α) {l : List α} (x : α) (h : Srt key l) : mrg key U (sins key x l) = sins key x (mrg key U l) := by
  obtain ⟨l1, l2, e1, e2, e3⟩ := sins_parts x h
  rw [e2, mrg_append, mrg_cons, mrg_pull x l2 _ e3, e1, mrg_append]
theorem isort_snoc (l : List α) (x : α) : isort key (l ++ [x]) = sins key x (isort key l) := mrg_snoc ..
theorem snoc_ind {P : List α → Prop} (h0 : P []) (h1 : ∀ l x, P l → P (l ++ [x])) (l : List α) : P l := by
  have : ∀ n (l : List α), l.length = n → P l := by
    intro n
    induction n with
    | zero => intro l h; rw [List.length_eq_zero_iff.1 h]; exact h0
    | succ n ih =>
      intro l h
      have hne : l ≠ [] := by rintro rfl; simp at h
      rw [← List.dropLast_concat_getLast hne]
      exact h1 _ _ (ih _ (by simp [h]))
  exact this _ l rfl
theorem mrg_isort (U B : List α) : mrg key U (isort key B) = mrg key U B := by
  induction B using snoc_ind with
  | h0 => rfl
  | h1 B x ih => rw [isort_snoc, mrg_sins _ _ (srt_isort B), ih, mrg_snoc]
theorem isort_append (A B : List α) : isort key (A ++ B) = mrg key (isort key A) (isort key B) := by
  rw [mrg_isort]; exact mrg_append ..
/-! ### Pieces of a row that is a function of the place -/
def seg (f : Nat → α) (a b : Nat) : List α := (List.range' a (b - a)).map f
theorem seg_length (f : Nat → α) (a b : Nat) : (seg f a b).length = b - a := by simp [seg]
theorem seg_getElem (f : Nat → α) (a b k : Nat) (h : k < (seg f a b).length) : (seg f a b)[k] = f (a + k) := by simp [seg]
theorem seg_eq {f g : Nat → α} {a b a' b' : Nat} (h : b - a = b' - a') (hf : ∀ k, k < b - a → f (a + k) = g (a' + k)) : seg f a b = seg g a' b' := by
  refine List.ext_getElem (by rw [seg_length, seg_length, h]) fun k h1 h2 => ?_
  rw [seg_getElem, seg_getElem]
  exact hf k (by rw [seg_length] at h1; exact h1)
theorem seg_congr {f g : Nat → α} {a b : Nat} (hf : ∀ k, a ≤ k → k < b → f k = g k) : seg f a b = seg g a b := seg_eq rfl fun k hk => hf _ (by omega) (by omega)
theorem seg_append (f : Nat → α) {a m b : Nat} (h1 : a ≤ m) (h2 : m ≤ b) : seg f a b = seg f a m ++ seg f m b := by
  refine List.ext_getElem (by simp only [List.length_append, seg_length]; omega) fun k h1' h2' => ?_
  rw [seg_getElem]
  by_cases hk : k < m - a
  · rw [List.getElem_append_left (by rw [seg_length]; exact hk), seg_getElem]
  · rw [List.getElem_append_right (by rw [seg_length]; omega), seg_getElem]
    congr 1
    rw [seg_length]; omega
theorem seg_one (f : Nat → α) (a : Nat) : seg f a (a + 1) = [f a] := by
  unfold seg
  rw [show a + 1 - a = 1 by omega]; rfl
theorem seg_nil (f : Nat → α) {a b : Nat} (h : b ≤ a) : seg f a b = [] := by
  unfold seg
  rw [show b - a = 0 by omega]; rfl
theorem seg_snoc (f : Nat → α) {a b : Nat} (h : a ≤ b) : seg f a (b + 1) = seg f a b ++ [f b] := by rw [seg_append f h (by omega : b ≤ b + 1), seg_one]
theorem seg_cons (f : Nat → α) {a b : Nat} (h : a < b) : seg f a b = f a :: seg f (a + 1) b := by rw [seg_append f (by omega : a ≤ a + 1) (by omega), seg_one]; rfl
theorem mem_seg {f : Nat → α} {a b : Nat} {y : α} : y ∈ seg f a b ↔ ∃ k, a ≤ k ∧ k < b ∧ f k = y := by
  unfold seg
  rw [List.mem_map]
  constructor
  · rintro ⟨k, hk, e⟩
    rw [List.mem_range'_1] at hk
    exact ⟨k, hk.1, by omega, e⟩
  · rintro ⟨k, h1, h2, e⟩
    exact ⟨k, by rw [List.mem_range'_1]; omega, e⟩
theorem srt_seg {f : Nat → α} {a b : Nat} : Srt key (seg f a b) ↔ ∀ i j, a ≤ i → i < j → j < b → key (f i) ≤ key (f j) := by
  unfold Srt
  rw [List.pairwise_iff_getElem]
  constructor
  · intro h i j h1 h2 h3
    have := h (i - a) (j - a) (by rw [seg_length]; omega) (by rw [seg_length]; omega) (by omega)
    rw [seg_getElem, seg_getElem] at this
    rwa [show a + (i - a) = i by omega, show a + (j - a) = j by omega] at this
  · intro h i j hi hj hij
    rw [seg_getElem, seg_getElem]
    rw [seg_length] at hi hj
    exact h _ _ (by omega) (by omega) (by omega)
/-- Two sorted neighbours that are merged. -/
def Merged (key : α → Int) (f g : Nat → α) (a m b : Nat) : Prop := seg g a b = mrg key (seg f a m) (seg f m b) ∧ ∀ k, ¬ (a ≤ k ∧ k < b) → g k = f k
/-- One element moved right: what swaps from a on have done when they stand at k. -/
def movR (f : Nat → α) (a k : Nat) : Nat → α := fun i => if a ≤ i ∧ i < k then f (i + 1) else if i = k then f a else f i
def movL (f : Nat → α) (a k : Nat) : Nat → α := fun i => if k < i ∧ i ≤ a then f (i - 1) else if i = k then f a else f i
def swp (f : Nat → α) (i j : Nat) : Nat → α := fun k => if k = i then f j else if k = j then f i else f k
theorem movR_zero (f : Nat → α) (a : Nat) : movR f a a = f := by
  funext i; unfold movR
  rw [if_neg (by omega)]
  split
  · rename_i h; rw [h]
  · rfl
theorem movL_zero (f : Nat → α) (a : Nat) : movL f a a = f := by
  funext i; unfold movL
  rw [if_neg (by omega)]
  split
  · rename_i h; rw [h]
  · rfl
theorem movR_step (f : Nat → α) (a k : Nat) (h : a ≤ k) : swp (movR f a k) k (k + 1) = movR f a (k + 1) := by
  funext i; unfold swp movR
  by_cases h1 : i = k
  · subst h1
    rw [if_pos rfl, if_neg (by omega), if_neg (by omega), if_pos (by omega)]
  · rw [if_neg h1]
    by_cases h2 : i = k + 1
    · subst h2
      rw [if_pos rfl, if_neg (by omega), if_pos rfl, if_neg (by omega), if_pos rfl]
    · rw [if_neg h2]
      by_cases h3 : a ≤ i ∧ i < k
      · rw [if_pos h3, if_pos (by omega)]
      · rw [if_neg h3, if_neg h1, if_neg (by omega), if_neg h2]
theorem movL_step (f : Nat → α) (a k : Nat) (h : k + 1 ≤ a) : swp (movL f a (k + 1)) (k + 1) k = movL f a k := by
  funext i; unfold swp movL
  by_cases h1 : i = k + 1
  · subst h1
    rw [if_pos rfl, if_neg (by omega), if_neg (by omega), if_pos (by omega)]
    rfl
  · rw [if_neg h1]
    by_cases h2 : i = k
    · subst h2
      rw [if_pos rfl, if_neg (by omega), if_pos rfl, if_neg (by omega), if_pos rfl]
    · rw [if_neg h2]
      by_cases h3 : k + 1 < i ∧ i ≤ a
      · rw [if_pos h3, if_pos (by omega)]
      · rw [if_neg h3, if_neg h1, if_neg (by omega), if_neg h2]
theorem swp_out (f : Nat → α) {i j k : Nat} (h1 : k ≠ i) (h2 : k ≠ j) : swp f i j k = f k := by unfold swp; rw [if_neg h1, if_neg h2]
/-- One element before the rest: it goes ahead of the first that is no less. -/
theorem merged_one {f : Nat → α} {a b i : Nat} (h1 : a + 1 ≤ i) (h2 : i ≤ b) (hs : Srt key (seg f (a + 1) b)) (hl : i = a + 1 ∨ key (f (i - 1)) < key (f a)) (hr : i = b ∨ key (f a) ≤ key (f i)) :
    Merged key f (movR f a (i - 1)) a (a + 1) b := by
  rw [srt_seg] at hs
  refine ⟨?_, fun k hk => ?_⟩
  · have e1 : seg (movR f a (i - 1)) a b = seg f (a + 1) i ++ (f a :: seg f i b) := by
      rw [seg_append _ (by omega : a ≤ i - 1) (by omega : i - 1 ≤ b), seg_cons _ (by omega : i - 1 < b), show i - 1 + 1 = i by omega]
      congr 1
      · refine seg_eq (by omega) fun k hk => ?_
        unfold movR; rw [if_pos (by omega)]; congr 1; omega
      · congr 1
        · unfold movR; rw [if_neg (by omega), if_pos rfl]
        · refine seg_congr fun k hk hk2 => ?_
          unfold movR; rw [if_neg (by omega), if_neg (by omega)]
    rw [e1, seg_one, seg_append f h1 h2]
    have l1 : ∀ v ∈ seg f (a + 1) i, key v < key (f a) := by
      intro v hv
      obtain ⟨k, k1, k2, rfl⟩ := mem_seg.1 hv
      rcases hl with h | h
      · omega
      · by_cases hk : k = i - 1
        · rw [hk]; exact h
        · have := hs k (i - 1) k1 (by omega) (by omega); omega
    have l2 : ∀ v ∈ seg f i b, key (f a) ≤ key v := by
      intro v hv
      obtain ⟨k, k1, k2, rfl⟩ := mem_seg.1 hv
      rcases hr with h | h
      · omega
      · by_cases hk : k = i
        · rw [hk]; exact h
        · have := hs i k (by omega) (by omega) (by omega); omega
    have s1 : Srt key (seg f (a + 1) i) := srt_seg.2 fun x y p q r => hs x y p q (by omega)
    have s2 : Srt key (seg f i b) := srt_seg.2 fun x y p q r => hs x y (by omega) q r
    have := mrg_split (key := key) [] [f a] (seg f (a + 1) i) (seg f i b) (fun u hu => by cases hu) (fun v hv u hu => by rw [List.mem_singleton.1 hu]; exact l1 v hv)
      (fun x hx y hy => by have := l1 x hx; have := l2 y hy; omega)
    rw [List.nil_append] at this
    rw [this, mrg_srt s1]
    congr 1
    have := mrg_right (key := key) [f a] (seg f i b) [] (fun v hv x hx => by rw [List.mem_singleton.1 hx]; exact l2 v hv)
    rw [List.append_nil] at this
    rw [this, mrg_srt s2]; rfl
  · unfold movR
    rw [if_neg (by omega), if_neg (by omega)]
/-- One element behind the rest: it goes behind the last that is no greater. -/
theorem merged_last {f : Nat → α} {a m i : Nat} (h1 : a ≤ i) (h2 : i ≤ m) (hs : Srt key (seg f a m)) (hl : i = a ∨ key (f (i - 1)) ≤ key (f m)) (hr : i = m ∨ key (f m) < key (f i)) :
    Merged key f (movL f m i) a m (m + 1) := by
  rw [srt_seg] at hs
  refine ⟨?_, fun k hk => ?_⟩
  · have e1 : seg (movL f m i) a (m + 1) = seg f a i ++ (f m :: seg f i m) := by
      rw [seg_append _ (by omega : a ≤ i) (by omega : i ≤ m + 1), seg_cons _ (by omega : i < m + 1)]
      congr 1
      · refine seg_congr fun k hk hk2 => ?_
        unfold movL; rw [if_neg (by omega), if_neg (by omega)]
      · congr 1
        · unfold movL; rw [if_neg (by omega), if_pos rfl]
        · refine seg_eq (by omega) fun k hk => ?_
          unfold movL; rw [if_pos (by omega)]; congr 1; omega
    rw [e1, seg_one, seg_append f h1 h2]
    refine (sins_at _ _ _ ?_ ?_).symm
    · intro v hv
      obtain ⟨k, k1, k2, rfl⟩ := mem_seg.1 hv
      rcases hl with h | h
      · omega
      · by_cases hk : k = i - 1
        · rw [hk]; exact h
        · have := hs k (i - 1) k1 (by omega) (by omega); omega
    · intro v hv
      obtain ⟨k, k1, k2, rfl⟩ := mem_seg.1 hv
      rcases hr with h | h
      · omega
      · by_cases hk : k = i
        · rw [hk]; exact h
        · have := hs i k (by omega) (by omega) (by omega); omega
  · unfold movL
    rw [if_neg (by omega), if_neg (by omega)]
/-! ### Rotations -/
/-- [a, m) and [m, b) change places. -/
def rot (f : Nat → α) (a m b : Nat) : Nat → α := fun k => if a ≤ k ∧ k < a + (b - m) then f (m + (k - a)) else if a + (b - m) ≤ k ∧ k < b then f (a + (k - (a + (b - m)))) else f k
/-- n elements from a on and n from b on change places. -/
def swr (f : Nat → α) (a b n : Nat) : Nat → α := fun k => if a ≤ k ∧ k < a + n then f (b + (k - a)) else if b ≤ k ∧ k < b + n then f (a + (k - b)) else f k
theorem swr_zero (f : Nat → α) (a b : Nat) : swr f a b 0 = f := by
  funext k; unfold swr; rw [if_neg (by omega), if_neg (by omega)]
theorem swr_step (f : Nat → α) (a b n : Nat) (h : a + n < b) : swp (swr f a b n) (a + n) (b + n) = swr f a b (n + 1) := by
  funext k; unfold swp swr; repeat' split
  all_goals first | (exfalso; omega) | rfl | (congr 1; omega)
theorem rot_same (f : Nat → α) (m i : Nat) (h : i ≤ m) : swr f (m - i) m i = rot f (m - i) m (m + i) := by
  funext k; unfold swr rot; repeat' split
  all_goals first | (exfalso; omega) | rfl | (congr 1; omega)
theorem rot_gt (f : Nat → α) (m i j : Nat) (h : i ≤ m) (hj : j < i) : rot (swr f (m - i) m j) (m - (i - j)) m (m + j) = rot f (m - i) m (m + j) := by
  funext k; unfold rot swr; repeat' split
  all_goals first | (exfalso; omega) | rfl | (congr 1; omega)
theorem rot_lt (f : Nat → α) (m i j : Nat) (h : i ≤ m) (hj : i < j) : rot (swr f (m - i) (m + j - i) i) (m - i) m (m + (j - i)) = rot f (m - i) m (m + j) := by
  funext k; unfold rot swr; repeat' split
  all_goals first | (exfalso; omega) | rfl | (congr 1; omega)
end
end Go.Proofs.Ytidooohgbiiikaa
