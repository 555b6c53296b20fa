/- Contracts of octet.Reader. -/
import Derived.Test.YtdnbhmfofphblaaGreatDoorRows
import Derived.Test.YtdnbhmfofphblaaGreatDoorBase
import Derived.Outline
import Derived.Deep.Light
import Derived.Deep.DeepCutAuto
import Derived.Deep.LoopGhost
namespace Go.Proofs.YtdnbhmfofphblaaGreatDoor
set_option maxRecDepth 100000
open Go.RowKit
set_option linter.unusedVariables false

theorem Tryz.info5r : (Tryz.prog.info? 5).map (fun i => (i.zero, i.size, i.bytes)) = some (some (.int .u8 0), 1, 1) := by kernel_rfl

theorem clone_any (A : Option Addr) (c : Nat) (l : List UInt8) (w : World) (hl : l.length ≤ 1000000) (hB : BS w w.heap.size A l) :
    Calls Tryz.prog 87 #[.slice A l.length c] w fun e w' => ∃ v, e = .returned v ∧ Byt w' v l ∧ Below w.heap.size w w' := by
  have hq := fun W => Lib.run_eql_slice_nil (P := Tryz.prog) W 44 5 A l.length c 0 0 Tryz.underlying44
  have h5 := Tryz.info5r
  have HB := Lib.hid hB
  cases A with
  | none =>
    obtain rfl : l = [] := by
      rcases hB with h | ⟨_, _, _, h, _⟩
      · exact h
      · cases h
    clear hB hq
    have hq := fun W => Lib.run_eql_slice_nil (P := Tryz.prog) W 44 5 none 0 c 0 0 Tryz.underlying44
    go_enter Tryz.func87, Tryz.ntmps87
    go_wp2_with fail
    go_ret
    exact ⟨_, rfl, Byt.nil _, Below.refl _ _⟩
  | some A =>
    clear hB
    go_enter Tryz.func87, Tryz.ntmps87
    go_wp2_with (at_builtin; refine wpList_append_row rfl (.tmp 5) (.tmp 6) 44 rfl w.heap.size 5 (.int .u8 0) 1 Tryz.underlying44 h5 rfl _ [] rfl (some A) l.length c (bcs l) rfl (bcs_length l).symm ?a1 ?a2 (bcs_one l) ?a3 ?a4 ?a5 ?_)
    case a1 => exact Row.of_blk (cs := #[]) (Blk.new_ rfl _ _) (Nat.le_refl _) (by simp) rfl
    case a2 => exact (HB.out.alloc (Nat.le_refl _) _).src
    case a3 => rw [bcs_length]; unfold maxLen; simp; omega
    case a4 => rw [bcs_length]; simp; omega
    case a5 => simp
    intro v1 w1 hrow hgr _
    have HR := Lib.hid hrow
    have HB1 := Lib.hid (show Below w.heap.size w w1 from ((Below.refl _ _).alloc (Nat.le_refl _) _).trans (below_grown hgr (fun i e => by simp [Value.ownBlock] at e; omega) (by simp)))
    clear hrow hgr
    go_wp2_with fail
    go_ret
    exact ⟨_, rfl, Row.byt (l := l) HR.out, HB1.out⟩

def Rd (w : World) (rb : Nat) (l : List UInt8) : Prop := ∃ A c, Blk w rb 216 #[.slice A l.length c, .bool false] ∧ l.length ≤ c ∧ c ≤ maxLen ∧ BS w w.heap.size A l ∧ (l = [] ∨ ∀ a, A = some a → a.block ≠ rb)

theorem Rd.lt {w : World} {rb : Nat} {l : List UInt8} (h : Rd w rb l) : rb < w.heap.size := by obtain ⟨A, c, hb, _⟩ := h; exact hb.lt

theorem Rd.on0 {w w' : World} {rb : Nat} {l : List UInt8} (h : Rd w rb l) (hk : Kept (fun _ => False) w w') : Rd w' rb l := by
  obtain ⟨A, c, h1, h2, h3, h4, h5⟩ := h
  exact ⟨A, c, h1.kept hk (fun h => h), h2, h3, h4.on hk (fun _ _ h => h), h5⟩

theorem read_any (A : Option Addr) (c : Nat) (l : List UInt8) (w : World) (hl : l.length ≤ 1000000) (hB : BS w w.heap.size A l) :
    Calls Tryz.prog 38 #[.slice A l.length c] w fun e w' => ∃ rb, e = .returned (.pointer (some ⟨rb, 0, none⟩)) ∧ w.heap.size ≤ rb ∧ Rd w' rb l ∧ Below w.heap.size w w' := by
  have H := Lib.hid (clone_any A c l w hl hB)
  clear hB
  go_enter Tryz.func38, Tryz.ntmps38
  go_wp2_with fail
  refine H.out.mono ?_
  rintro e w1 ⟨v, rfl, hy, hb⟩
  obtain ⟨A1, c1, rfl, h1, h2, hbs⟩ := hy
  have HBS := Lib.hid hbs
  have HB := Lib.hid hb
  have hs := hb.size
  clear hbs hb
  go_wp2_with fail
  go_ret
  refine ⟨w1.heap.size, rfl, hs, ⟨A1, c1, Blk.new _ _ _, h1, h2, (HBS.out.alloc (Nat.le_refl _) _).more (by simp), ?_⟩, HB.out.alloc hs _⟩
  rcases HBS.out with h | ⟨b, o, hb, rfl, _⟩
  · exact .inl h
  · exact .inr fun a e => by cases e; simp; omega

theorem BS.turn {w w' : World} {A : Option Addr} {l : List UInt8} {rb : Nat} (h : BS w w.heap.size A l) (hk : Kept (· = rb) w w') (hne : l = [] ∨ ∀ a, A = some a → a.block ≠ rb) : BS w' w'.heap.size A l := by
  rcases h with h | ⟨b, o, hb, rfl, h2⟩
  · exact .inl h
  · rcases hne with h | h
    · exact .inl h
    · exact .inr ⟨b, o, Nat.lt_of_lt_of_le hb hk.size, rfl, h2.kept hk hb (h _ rfl)⟩

def NextPost (w : World) (rb k : Nat) (l : List UInt8) (e : Ending) (w' : World) : Prop := ∃ A c, e = .returned (.slice A k c) ∧ BS w' w'.heap.size A (l.take k) ∧ Rd w' rb (l.drop k) ∧ Kept (· = rb) w w'

theorem Rd.of {w : World} {rb c : Nat} {A : Option Addr} {l : List UInt8} {x : Value} (hb : Blk w rb 216 #[x, .bool false]) (k : Nat) (hk : k ≤ l.length) (hlc : l.length ≤ c) (hcm : c ≤ maxLen) (hs : BS w w.heap.size A l) (hn : l = [] ∨ ∀ a, A = some a → a.block ≠ rb) (A' : Option Addr)
    (hA : (A' = A ∧ k = c) ∨ (∃ a, A = some a ∧ A' = some (a.add k)) ∨ (A' = A ∧ k = 0)) : NextPost w rb k l (.returned (.slice A k c)) (w.setCell ⟨rb, 0, none⟩ (.slice A' (l.length - k) (c - k))) := by
  have hK : Kept (· = rb) w (w.setCell ⟨rb, 0, none⟩ (.slice A' (l.length - k) (c - k))) := (Kept.refl _ _).setIn rfl
  have hs' := hs.turn hK hn
  refine ⟨A, c, rfl, hs'.take_ k, ⟨A', c - k, ?_, by rw [List.length_drop]; omega, by omega, ?_, ?_⟩, hK⟩
  · rw [List.length_drop]; exact hb.set_to rfl
  · rcases hA with ⟨rfl, rfl⟩ | ⟨a, rfl, rfl⟩ | ⟨rfl, rfl⟩
    · exact .inl (List.drop_eq_nil_of_le hlc)
    · rcases hs' with h | ⟨b, o, hb', e, h2⟩
      · exact .inl (by rw [h]; simp)
      · injection e with e; subst e
        exact .inr ⟨b, o + k, hb', by simp [Addr.add_lit], h2.drop k⟩
    · simpa using hs'
  · rcases hA with ⟨rfl, rfl⟩ | ⟨a, rfl, rfl⟩ | ⟨rfl, rfl⟩
    · exact .inl (List.drop_eq_nil_of_le hlc)
    · rcases hn with h | h
      · exact .inl (by rw [h]; simp)
      · refine .inr fun a' e => ?_
        injection e with e; subst e
        have := h a rfl
        unfold Addr.add; split <;> simpa using this
    · simpa using hn

theorem next_any (rb k : Nat) (l : List UInt8) (w : World) (hl : l.length ≤ 1000000) (hk : k ≤ l.length) (hR : Rd w rb l) :
    Calls Tryz.prog 140 #[.pointer (some ⟨rb, 0, none⟩), .int .i64 (k : Int)] w (NextPost w rb k l) := by
  obtain ⟨A, c, hb, h1, h2, hbs, hne⟩ := hR
  have H2 := Lib.hid h2
  unfold maxLen at h2
  have cb := hb.cell
  have fb := hb.frozen
  have HB := Lib.hid hb
  have HS := Lib.hid hbs
  have HN := Lib.hid hne
  have hkk : ¬ (l.length : Int) < (k : Int) := by omega
  clear hb hne
  cases A with
  | none =>
    obtain rfl : l = [] := by
      rcases hbs with h | ⟨_, _, _, h, _⟩
      · exact h
      · cases h
    clear hbs
    obtain rfl : k = 0 := by simpa using hk
    go_enter Tryz.func140, Tryz.ntmps140
    go_wp2_with fail
    go_ret
    exact Rd.of HB.out 0 (by simp) (by simp) H2.out HS.out (.inl rfl) none (.inr (.inr ⟨rfl, rfl⟩))
  | some a =>
    clear hbs
    go_enter Tryz.func140, Tryz.ntmps140
    go_wp2_with fail
    · go_ret
      obtain rfl : c = k := by omega
      have := Rd.of HB.out c hk h1 H2.out HS.out HN.out (some a) (.inl ⟨rfl, rfl⟩)
      rw [Nat.sub_self] at this
      exact this
    · go_ret
      exact Rd.of HB.out k hk h1 H2.out HS.out HN.out (some (a.add k)) (.inr (.inl ⟨a, rfl, rfl⟩))

theorem num_any (rb k : Nat) (l : List UInt8) (w : World) (hl : l.length ≤ 1000000) (hk : k ≤ l.length) (k8 : k ≤ 8) (hR : Rd w rb l) :
    Calls Tryz.prog 88 #[.pointer (some ⟨rb, 0, none⟩), .int .i64 (k : Int)] w fun e w' => e = .returned (.int .u64 (num (l.take k))) ∧ Rd w' rb (l.drop k) ∧ Kept (· = rb) w w' := by
  have H := Lib.hid (next_any rb k l w hl hk hR)
  have hor := Lib.hid or_byte
  clear hR
  go_enter Tryz.func88, Tryz.ntmps88
  go_wp2_with fail
  refine H.out.mono ?_
  rintro e w1 ⟨A, c, rfl, hbs, hR, hK⟩
  have HR := Lib.hid hR
  have HK := Lib.hid hK
  have HS := Lib.hid hbs
  have hlt : (l.take k).length = k := by simp; omega
  have HL := Lib.hid hlt
  clear hR hK hbs hlt
  go_wp2_with fail
  go_loop [5, 14] (fun n i => ∃ j : Nat, j ≤ k ∧ i = .int .i64 (j : Int) ∧ n = .int .u64 (num ((l.take k).take j))) (fun _ i => k - (intOf i).toNat)
  case atStart => exact ⟨0, by omega, rfl, rfl⟩
  case round =>
    obtain ⟨j, hj, rfl, rfl⟩ := hrel
    by_cases hjk : j < k
    · have hj1 : j < (l.take k).length := by rw [HL.out]; exact hjk
      obtain ⟨b, o, hb, rfl, hba⟩ := HS.out.at hj1
      have c1 := hba j hj1
      have hns := num_small (l.take k) j (by omega) (by omega)
      have HT := Lib.hid (num_take (l.take k) j hj1)
      generalize num ((l.take k).take j) = n at hns HT ⊢
      generalize hx : (l.take k)[j] = x at c1 HT
      clear hx
      have x0 := byte_le x
      have x1 : (0 : Int) ≤ (x.toNat : Int) := by omega
      have jI : (j : Int) < (k : Int) := by omega
      obtain ⟨n0, n1⟩ := hns
      have ho := hor.out n (x.toNat : Int) n0 n1 x1 x0
      clear hba
      go_wp2_with fail
      go_round
      case rel => exact ⟨j + 1, by omega, by go_num, by rw [HT.out]⟩
      case measure => simp [intOf]; omega
    · go_wp2_with fail
      go_ret
      obtain rfl : j = k := by omega
      exact ⟨ret_int (by rw [List.take_take, Nat.min_self]), HR.out, HK.out⟩

end Go.Proofs.YtdnbhmfofphblaaGreatDoor
