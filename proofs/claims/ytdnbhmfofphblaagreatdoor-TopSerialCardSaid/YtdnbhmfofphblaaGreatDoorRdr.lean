/- A Reader whose bytes lie in a block below its own: Byte, Word, Long. -/
import Derived.Test.YtdnbhmfofphblaaGreatDoorOctRead
import Derived.Test.YtdnbhmfofphblaaGreatDoorPlainT
import Derived.Test.YtdnbhmfofphblaaGreatDoorA
namespace Go.Proofs.YtdnbhmfofphblaaGreatDoor
set_option maxRecDepth 100000
open Go.RowKit
set_option linter.unusedVariables false
def RdL (w : World) (rb : Nat) (l : List UInt8) : Prop := ∃ A c, Blk w rb 216 #[.slice A l.length c, .bool false] ∧ l.length ≤ c ∧ c ≤ maxLen ∧ BS w w.heap.size A l ∧ (l = [] ∨ ∀ a, A = some a → a.block < rb)

theorem RdL.lt {w : World} {rb : Nat} {l : List UInt8} (h : RdL w rb l) : rb < w.heap.size := by obtain ⟨A, c, hb, _⟩ := h; exact hb.lt

theorem RdL.on0 {w w' : World} {rb : Nat} {l : List UInt8} (h : RdL w rb l) (hk : Kept (fun _ => False) w w') : RdL w' rb l := by
  obtain ⟨A, c, h1, h2, h3, h4, h5⟩ := h
  exact ⟨A, c, h1.kept hk (fun h => h), h2, h3, h4.on hk (fun _ _ h => h), h5⟩

theorem readL_any (A : Option Addr) (c : Nat) (l : List UInt8) (w : World) (hl : l.length ≤ 1000000) (hB : BS w w.heap.size A l) :
    Calls Tryz.prog 38 #[.slice A l.length c] w fun e w' => ∃ rb, e = .returned (.pointer (some ⟨rb, 0, none⟩)) ∧ w.heap.size ≤ rb ∧ RdL w' rb l ∧ Below w.heap.size w w' := by
  have H := Lib.hid (clone_any A c l w hl hB)
  clear hB
  go_enter Tryz.func38, Tryz.ntmps38
  go_wp2_with fail
  refine H.out.mono ?_
  rintro e w1 ⟨v, rfl, hy, hb⟩
  obtain ⟨A1, c1, rfl, h1, h2, hbs⟩ := hy
  have HBS := Lib.hid hbs
  have HB := Lib.hid hb
  have hs := hb.size
  clear hbs hb
  go_wp2_with fail
  go_ret
  refine ⟨w1.heap.size, rfl, hs, ⟨A1, c1, Blk.new _ _ _, h1, h2, (HBS.out.alloc (Nat.le_refl _) _).more (by simp), ?_⟩, HB.out.alloc hs _⟩
  rcases HBS.out with h | ⟨b, o, hb, rfl, _⟩
  · exact .inl h
  · exact .inr fun a e => by cases e; exact hb

def NextPostL (w : World) (rb k : Nat) (l : List UInt8) (e : Ending) (w' : World) : Prop := ∃ A c, e = .returned (.slice A k c) ∧ BS w' w'.heap.size A (l.take k) ∧ RdL w' rb (l.drop k) ∧ Kept (· = rb) w w'

theorem RdL.of {w : World} {rb c : Nat} {A : Option Addr} {l : List UInt8} {x : Value} (hb : Blk w rb 216 #[x, .bool false]) (k : Nat) (hk : k ≤ l.length) (hlc : l.length ≤ c) (hcm : c ≤ maxLen) (hs : BS w w.heap.size A l) (hn : l = [] ∨ ∀ a, A = some a → a.block < rb) (A' : Option Addr)
    (hA : (A' = A ∧ k = c) ∨ (∃ a, A = some a ∧ A' = some (a.add k)) ∨ (A' = A ∧ k = 0)) : NextPostL w rb k l (.returned (.slice A k c)) (w.setCell ⟨rb, 0, none⟩ (.slice A' (l.length - k) (c - k))) := by
  have hK : Kept (· = rb) w (w.setCell ⟨rb, 0, none⟩ (.slice A' (l.length - k) (c - k))) := (Kept.refl _ _).setIn rfl
  have hs' := hs.turn hK (hn.imp id fun h a e => by have := h a e; omega)
  refine ⟨A, c, rfl, hs'.take_ k, ⟨A', c - k, ?_, by rw [List.length_drop]; omega, by omega, ?_, ?_⟩, hK⟩
  · rw [List.length_drop]; exact hb.set_to rfl
  · rcases hA with ⟨rfl, rfl⟩ | ⟨a, rfl, rfl⟩ | ⟨rfl, rfl⟩
    · exact .inl (List.drop_eq_nil_of_le hlc)
    · rcases hs' with h | ⟨b, o, hb', e, h2⟩
      · exact .inl (by rw [h]; simp)
      · injection e with e; subst e
        exact .inr ⟨b, o + k, hb', by simp [Addr.add_lit], h2.drop k⟩
    · simpa using hs'
  · rcases hA with ⟨rfl, rfl⟩ | ⟨a, rfl, rfl⟩ | ⟨rfl, rfl⟩
    · exact .inl (List.drop_eq_nil_of_le hlc)
    · rcases hn with h | h
      · exact .inl (by rw [h]; simp)
      · refine .inr fun a' e => ?_
        injection e with e; subst e
        have := h a rfl
        unfold Addr.add; split <;> simpa using this
    · simpa using hn

theorem nextL_any (rb k : Nat) (l : List UInt8) (w : World) (hl : l.length ≤ 1000000) (hk : k ≤ l.length) (hR : RdL w rb l) :
    Calls Tryz.prog 140 #[.pointer (some ⟨rb, 0, none⟩), .int .i64 (k : Int)] w (NextPostL w rb k l) := by
  obtain ⟨A, c, hb, h1, h2, hbs, hne⟩ := hR
  have H2 := Lib.hid h2
  unfold maxLen at h2
  have cb := hb.cell
  have fb := hb.frozen
  have HB := Lib.hid hb
  have HS := Lib.hid hbs
  have HN := Lib.hid hne
  have hkk : ¬ (l.length : Int) < (k : Int) := by omega
  clear hb hne
  cases A with
  | none =>
    obtain rfl : l = [] := by
      rcases hbs with h | ⟨_, _, _, h, _⟩
      · exact h
      · cases h
    clear hbs
    obtain rfl : k = 0 := by simpa using hk
    go_enter Tryz.func140, Tryz.ntmps140
    go_wp2_with fail
    go_ret
    exact RdL.of HB.out 0 (by simp) (by simp) H2.out HS.out (.inl rfl) none (.inr (.inr ⟨rfl, rfl⟩))
  | some a =>
    clear hbs
    go_enter Tryz.func140, Tryz.ntmps140
    go_wp2_with fail
    · go_ret
      obtain rfl : c = k := by omega
      have := RdL.of HB.out c hk h1 H2.out HS.out HN.out (some a) (.inl ⟨rfl, rfl⟩)
      rw [Nat.sub_self] at this
      exact this
    · go_ret
      exact RdL.of HB.out k hk h1 H2.out HS.out HN.out (some (a.add k)) (.inr (.inl ⟨a, rfl, rfl⟩))

theorem numL_any (rb k : Nat) (l : List UInt8) (w : World) (hl : l.length ≤ 1000000) (hk : k ≤ l.length) (k8 : k ≤ 8) (hR : RdL w rb l) :
    Calls Tryz.prog 88 #[.pointer (some ⟨rb, 0, none⟩), .int .i64 (k : Int)] w fun e w' => e = .returned (.int .u64 (num (l.take k))) ∧ RdL w' rb (l.drop k) ∧ Kept (· = rb) w w' := by
  have H := Lib.hid (nextL_any rb k l w hl hk hR)
  have hor := Lib.hid or_byte
  clear hR
  go_enter Tryz.func88, Tryz.ntmps88
  go_wp2_with fail
  refine H.out.mono ?_
  rintro e w1 ⟨A, c, rfl, hbs, hR, hK⟩
  have HR := Lib.hid hR
  have HK := Lib.hid hK
  have HS := Lib.hid hbs
  have hlt : (l.take k).length = k := by simp; omega
  have HL := Lib.hid hlt
  clear hR hK hbs hlt
  go_wp2_with fail
  go_loop [5, 14] (fun n i => ∃ j : Nat, j ≤ k ∧ i = .int .i64 (j : Int) ∧ n = .int .u64 (num ((l.take k).take j))) (fun _ i => k - (intOf i).toNat)
  case atStart => exact ⟨0, by omega, rfl, rfl⟩
  case round =>
    obtain ⟨j, hj, rfl, rfl⟩ := hrel
    by_cases hjk : j < k
    · have hj1 : j < (l.take k).length := by rw [HL.out]; exact hjk
      obtain ⟨b, o, hb, rfl, hba⟩ := HS.out.at hj1
      have c1 := hba j hj1
      have hns := num_small (l.take k) j (by omega) (by omega)
      have HT := Lib.hid (num_take (l.take k) j hj1)
      generalize num ((l.take k).take j) = n at hns HT ⊢
      generalize hx : (l.take k)[j] = x at c1 HT
      clear hx
      have x0 := byte_le x
      have x1 : (0 : Int) ≤ (x.toNat : Int) := by omega
      have jI : (j : Int) < (k : Int) := by omega
      obtain ⟨n0, n1⟩ := hns
      have ho := hor.out n (x.toNat : Int) n0 n1 x1 x0
      clear hba
      go_wp2_with fail
      go_round
      case rel => exact ⟨j + 1, by omega, by go_num, by rw [HT.out]⟩
      case measure => simp [intOf]; omega
    · go_wp2_with fail
      go_ret
      obtain rfl : j = k := by omega
      exact ⟨ret_int (by rw [List.take_take, Nat.min_self]), HR.out, HK.out⟩

theorem rdByte (rb k : Nat) (l : List UInt8) (v : Int) (w : World) (hl : l.length ≤ 1000000) (hk : k + 1 ≤ l.length) (hv : fld l k 1 = v) (hR : RdL w rb (l.drop k)) :
    Calls Tryz.prog 104 #[.pointer (some ⟨rb, 0, none⟩)] w fun e w' => e = .returned (.int .u8 v) ∧ RdL w' rb (l.drop (k + 1)) ∧ Kept (· = rb) w w' := by
  have hr := fld_range l k 1 hk
  rw [hv] at hr
  obtain ⟨v0, v1⟩ := hr
  have v2 : v < 256 := v1
  have hz := numL_any rb 1 (l.drop k) w (by rw [List.length_drop]; omega) (by rw [List.length_drop]; omega) (by omega) hR
  rw [List.drop_drop, show num ((l.drop k).take 1) = v from hv] at hz
  have H := Lib.hid hz
  clear hz hR hv v1
  go_enter Tryz.func104, Tryz.ntmps104
  go_wp2_with fail
  refine H.out.mono ?_
  rintro e w1 ⟨rfl, hR, hK⟩
  have HR := Lib.hid hR
  have HK := Lib.hid hK
  clear hR hK
  go_wp2_with fail
  go_ret
  exact ⟨rfl, HR.out, HK.out⟩
theorem rdWord (rb k : Nat) (l : List UInt8) (v : Int) (w : World) (hl : l.length ≤ 1000000) (hk : k + 2 ≤ l.length) (hv : fld l k 2 = v) (hR : RdL w rb (l.drop k)) :
    Calls Tryz.prog 106 #[.pointer (some ⟨rb, 0, none⟩)] w fun e w' => e = .returned (.int .u16 v) ∧ RdL w' rb (l.drop (k + 2)) ∧ Kept (· = rb) w w' := by
  have hr := fld_range l k 2 hk
  rw [hv] at hr
  obtain ⟨v0, v1⟩ := hr
  have v2 : v < 65536 := v1
  have hz := numL_any rb 2 (l.drop k) w (by rw [List.length_drop]; omega) (by rw [List.length_drop]; omega) (by omega) hR
  rw [List.drop_drop, show num ((l.drop k).take 2) = v from hv] at hz
  have H := Lib.hid hz
  clear hz hR hv v1
  go_enter Tryz.func106, Tryz.ntmps106
  go_wp2_with fail
  refine H.out.mono ?_
  rintro e w1 ⟨rfl, hR, hK⟩
  have HR := Lib.hid hR
  have HK := Lib.hid hK
  clear hR hK
  go_wp2_with fail
  go_ret
  exact ⟨rfl, HR.out, HK.out⟩
theorem rdLong (rb k : Nat) (l : List UInt8) (v : Int) (w : World) (hl : l.length ≤ 1000000) (hk : k + 4 ≤ l.length) (hv : fld l k 4 = v) (hR : RdL w rb (l.drop k)) :
    Calls Tryz.prog 39 #[.pointer (some ⟨rb, 0, none⟩)] w fun e w' => e = .returned (.int .u32 v) ∧ RdL w' rb (l.drop (k + 4)) ∧ Kept (· = rb) w w' := by
  have hr := fld_range l k 4 hk
  rw [hv] at hr
  obtain ⟨v0, v1⟩ := hr
  have v2 : v < 4294967296 := v1
  have hz := numL_any rb 4 (l.drop k) w (by rw [List.length_drop]; omega) (by rw [List.length_drop]; omega) (by omega) hR
  rw [List.drop_drop, show num ((l.drop k).take 4) = v from hv] at hz
  have H := Lib.hid hz
  clear hz hR hv v1
  go_enter Tryz.func39, Tryz.ntmps39
  go_wp2_with fail
  refine H.out.mono ?_
  rintro e w1 ⟨rfl, hR, hK⟩
  have HR := Lib.hid hR
  have HK := Lib.hid hK
  clear hR hK
  go_wp2_with fail
  go_ret
  exact ⟨rfl, HR.out, HK.out⟩
/-- A Reader's state stays where neither it nor what lies below it turns. -/
theorem RdL.on {S : Nat → Prop} {w w' : World} {rb : Nat} {l : List UInt8} (h : RdL w rb l) (hk : Kept S w w') (hS : ∀ i, i ≤ rb → ¬ S i) : RdL w' rb l := by
  obtain ⟨A, c, h1, h2, h3, h4, h5⟩ := h
  refine ⟨A, c, h1.kept hk (hS _ (Nat.le_refl _)), h2, h3, ?_, h5⟩
  rcases h4 with h | ⟨b, o, hb, rfl, h6⟩
  · exact .inl h
  · rcases h5 with h | h
    · exact .inl h
    · exact .inr ⟨b, o, Nat.lt_of_lt_of_le hb hk.size, rfl, h6.kept hk hb (hS _ (Nat.le_of_lt (h _ rfl)))⟩
theorem and15 (n : Int) (h0 : 0 ≤ n) (h1 : n < 256) : bits .and .u8 n 15 = n % 16 := by
  obtain ⟨n, rfl⟩ := Int.eq_ofNat_of_zero_le h0
  have := u8_and_nat n 15 (by omega) (by omega)
  rw [nat_mask4] at this
  simpa using this
theorem andN (n : Nat) (k : Nat) : n &&& 2 ^ k = 2 ^ k * (n / 2 ^ k % 2) := by
  apply Nat.eq_of_testBit_eq
  intro i
  rw [Nat.testBit_and, Nat.testBit_two_pow, Nat.testBit_two_pow_mul]
  by_cases hi : k = i
  · subst hi
    simp [Nat.testBit_eq_decide_div_mod_eq]
  · by_cases hik : i < k
    · simp [hi]; omega
    · have : i - k ≠ 0 := by omega
      obtain ⟨j, hj⟩ : ∃ j, i - k = j + 1 := ⟨i - k - 1, by omega⟩
      simp [hi, hj, Nat.testBit_succ]
theorem andBit (n : Int) (k m : Nat) (hm : 2 ^ k = m) (hk : m < 65536) (h0 : 0 ≤ n) (h1 : n < 65536) : bits .and .u16 n (m : Int) = (m : Int) * (n / m % 2) := by
  obtain ⟨n, rfl⟩ := Int.eq_ofNat_of_zero_le h0
  rw [u16_and_nat n m (by omega) hk, ← hm, andN]
  simp
theorem and13 (n : Int) (h0 : 0 ≤ n) (h1 : n < 65536) : bits .and .u16 n 8191 = n % 8192 := by
  obtain ⟨n, rfl⟩ := Int.eq_ofNat_of_zero_le h0
  have := u16_and_nat n 8191 (by omega) (by omega)
  rw [nat_mask13] at this
  simpa using this
end Go.Proofs.YtdnbhmfofphblaaGreatDoor
