/- What the fragments of a packet are, put together. Plain Lean. -/
import Derived.Test.YtidooohgbiiikaaPlainF
import Derived.Test.YtidooohgbiiikaaPlainQ
namespace Go.Proofs.Ytidooohgbiiikaa
structure Pt where
  hd : Hd
  ld : List UInt8
def pt (b : List UInt8) : Pt := ⟨phd b, pld b⟩
def poff (p : Pt) : Int := p.hd.off
def kinB (a b : Hd) : Bool := decide (a.id = b.id ∧ a.proto = b.proto ∧ a.src = b.src ∧ a.dst = b.dst)
def gat (h0 : Hd) : List Pt → Bool → List UInt8 → Int × List UInt8
  | [], m, acc => if m = true then (20, []) else (0, acc)
  | p :: ps, m, acc => if kinB p.hd h0 = false ∨ 8 * p.hd.off < acc.length ∨ m = false then (21, []) else if (acc.length : Int) < 8 * p.hd.off then (20, []) else gat h0 ps p.hd.more (acc ++ p.ld)
def finJ (h : Hd) (r : Int × List UInt8) : Int × List UInt8 := if r.1 = 0 then (0, ({ h with more := false, off := 0 } : Hd).pkt r.2) else (r.1, [])
def joinS : List Pt → Int × List UInt8
  | [] => (6, [])
  | p :: ps => finJ p.hd (gat p.hd (p :: ps) true [])
def joinR (l : List (List UInt8)) : Int × List UInt8 :=
  match l.find? (fun b => decide (perr b ≠ 0)) with
  | some b => (perr b, [])
  | none => joinS (isort poff (l.map pt))
theorem gat_bad {h0 : Hd} {p : Pt} {ps : List Pt} {m : Bool} {acc : List UInt8} (h : kinB p.hd h0 = false ∨ 8 * p.hd.off < acc.length ∨ m = false) : gat h0 (p :: ps) m acc = (21, []) := by rw [gat, if_pos h]
theorem gat_gap {h0 : Hd} {p : Pt} {ps : List Pt} {m : Bool} {acc : List UInt8} (h1 : kinB p.hd h0 = true) (h2 : m = true) (h3 : (acc.length : Int) < 8 * p.hd.off) : gat h0 (p :: ps) m acc = (20, []) := by
  rw [gat, if_neg (by rintro (h | h | h); (rw [h1] at h; cases h); omega; (rw [h2] at h; cases h)), if_pos h3]
theorem gat_on {h0 : Hd} {p : Pt} {ps : List Pt} {m : Bool} {acc : List UInt8} (h1 : kinB p.hd h0 = true) (h2 : m = true) (h3 : (acc.length : Int) = 8 * p.hd.off) : gat h0 (p :: ps) m acc = gat h0 ps p.hd.more (acc ++ p.ld) := by
  rw [gat, if_neg (by rintro (h | h | h); (rw [h1] at h; cases h); omega; (rw [h2] at h; cases h)), if_neg (by omega)]
theorem joinR_err {l : List (List UInt8)} {k : Nat} (hk : k < l.length) (h : ∀ b ∈ l.take k, perr b = 0) (he : perr l[k] ≠ 0) : joinR l = (perr l[k], []) := by
  have e2 : l = l.take k ++ l[k] :: l.drop (k + 1) := by rw [← List.drop_eq_getElem_cons hk, List.take_append_drop]
  generalize l[k] = x at e2 he
  have e : l.find? (fun b => decide (perr b ≠ 0)) = some x := by
    have : (l.take k).find? (fun b => decide (perr b ≠ 0)) = none := List.find?_eq_none.2 fun b hb => by simp [h b hb]
    rw [e2, List.find?_append, this]
    simp [he]
  unfold joinR; rw [e]
theorem joinR_all {l : List (List UInt8)} (h : ∀ b ∈ l, perr b = 0) : joinR l = joinS (isort poff (l.map pt)) := by
  have e : l.find? (fun b => decide (perr b ≠ 0)) = none := List.find?_eq_none.2 fun b hb => by simp [h b hb]
  unfold joinR; rw [e]
theorem joinS_at {P : List Pt} (h : 0 < P.length) : joinS P = finJ P[0].hd (gat P[0].hd P true []) := by
  cases P with
  | nil => simp at h
  | cons p ps => rfl
def lds (P : List Pt) : Nat := (P.map fun p => p.ld.length).sum
theorem lds_cons (p : Pt) (P : List Pt) : lds (p :: P) = p.ld.length + lds P := by simp [lds]
theorem lds_sins (p : Pt) (P : List Pt) : lds (sins poff p P) = p.ld.length + lds P := by
  induction P with
  | nil => rfl
  | cons q P ih => unfold sins; split <;> simp only [lds_cons, ih]; omega
theorem lds_mrg (U V : List Pt) : lds (mrg poff U V) = lds U + lds V := by
  induction V generalizing U with
  | nil => rfl
  | cons v V ih => rw [mrg_cons, ih, lds_sins, lds_cons]; omega
theorem lds_isort (P : List Pt) : lds (isort poff P) = lds P := by unfold isort; rw [lds_mrg]; simp [lds]
theorem pld_le (b : List UInt8) : (pld b).length ≤ b.length := by unfold pld; rw [List.length_take, List.length_drop]; omega
theorem lds_le (l : List (List UInt8)) : lds (l.map pt) ≤ (l.map List.length).sum := by
  induction l with
  | nil => simp [lds]
  | cons b l ih =>
    rw [List.map_cons, lds_cons, List.map_cons, List.sum_cons]
    have := pld_le b
    show (pld b).length + _ ≤ _
    omega
structure OkPt (p : Pt) : Prop where
  wf : p.hd.wf
  o1 : p.hd.off ≤ 8191
theorem okPt {b : List UInt8} (h : perr b = 0) : OkPt (pt b) := ⟨(pk_of h).wf, by show fld b 6 2 % 8192 ≤ 8191; omega⟩
theorem okPt_isort {l : List (List UInt8)} (h : ∀ b ∈ l, perr b = 0) : ∀ p ∈ isort poff (l.map pt), OkPt p := by
  intro p hp
  obtain ⟨b, hb, rfl⟩ := List.mem_map.1 (mem_isort.1 hp)
  exact okPt (h b hb)
/-! ### Two lists, place by place -/
inductive F2 {α β : Type} (R : α → β → Prop) : List α → List β → Prop
  | nil : F2 R [] []
  | cons {a b as bs} : R a b → F2 R as bs → F2 R (a :: as) (b :: bs)
section
variable {α β : Type} {R S : α → β → Prop} {as as' : List α} {bs bs' : List β}
theorem F2.len (h : F2 R as bs) : as.length = bs.length := by induction h with | nil => rfl | cons _ _ ih => simp [ih]
theorem F2.imp (h : F2 R as bs) (hRS : ∀ a b, R a b → S a b) : F2 S as bs := by induction h with | nil => exact .nil | cons h _ ih => exact .cons (hRS _ _ h) ih
theorem F2.append (h : F2 R as bs) (h' : F2 R as' bs') : F2 R (as ++ as') (bs ++ bs') := by induction h with | nil => exact h' | cons h _ ih => exact .cons h ih
theorem F2.one {a : α} {b : β} (h : R a b) : F2 R [a] [b] := .cons h .nil
theorem F2.at (h : F2 R as bs) {k : Nat} (hk : k < as.length) (hk' : k < bs.length) : R as[k] bs[k] := by
  induction h generalizing k with
  | nil => simp at hk
  | cons h _ ih =>
    cases k with
    | zero => exact h
    | succ k => exact ih (by simpa using hk) (by simpa using hk')
theorem F2.take (h : F2 R as bs) (k : Nat) : F2 R (as.take k) (bs.take k) := by
  induction h generalizing k with
  | nil => simp; exact .nil
  | cons h _ ih => cases k with
    | zero => simp; exact .nil
    | succ k => simpa using F2.cons h (ih k)
theorem F2.drop (h : F2 R as bs) (k : Nat) : F2 R (as.drop k) (bs.drop k) := by
  induction h generalizing k with
  | nil => simp; exact .nil
  | cons h h' ih => cases k with
    | zero => simpa using F2.cons h h'
    | succ k => simpa using ih k
theorem F2.sins {ka : α → Int} {kb : β → Int} (hk : ∀ a b, R a b → ka a = kb b) {a : α} {b : β} (hab : R a b) (h : F2 R as bs) : F2 R (sins ka a as) (sins kb b bs) := by
  induction h with
  | nil => exact .one hab
  | cons h h' ih =>
    unfold Ytidooohgbiiikaa.sins
    rw [hk _ _ hab, hk _ _ h]
    split
    · exact .cons hab (.cons h h')
    · exact .cons h ih
theorem F2.mrg {ka : α → Int} {kb : β → Int} (hk : ∀ a b, R a b → ka a = kb b) {us : List α} {vs : List β} (h : F2 R as bs) (hU : F2 R us vs) : F2 R (mrg ka us as) (mrg kb vs bs) := by
  induction h generalizing us vs with
  | nil => exact hU
  | cons h _ ih => rw [mrg_cons, mrg_cons]; exact ih (F2.sins hk h hU)
theorem F2.isort {ka : α → Int} {kb : β → Int} (hk : ∀ a b, R a b → ka a = kb b) (h : F2 R as bs) : F2 R (isort ka as) (isort kb bs) := F2.mrg hk h .nil
end
end Go.Proofs.Ytidooohgbiiikaa
