/- awake. -/
import Derived.Test.YtnfolopodjdlbaaI
import Derived.Lib.SlBytesConst
namespace Go.Proofs.Ytnfolopodjdlbaa
open Go.RowKit
set_option linter.unusedVariables false
theorem lit_at (y : UInt8) (w : World) (fr : Nat × Nat) : BytesAt (w.alloc (.cells #[.int .u8 (y.toNat : Int)] 5 fr)) w.heap.size 0 [y] := by
  intro k hk
  obtain rfl : k = 0 := by simpa using hk
  show (match (w.heap.push (.cells #[.int .u8 (y.toNat : Int)] 5 fr))[w.heap.size]? with | some (.cells c _ _) => c[0]? | _ => none) = _
  simp
theorem lit_bs (y : UInt8) (w : World) (fr : Nat × Nat) : BS (w.alloc (.cells #[.int .u8 (y.toNat : Int)] 5 fr)) (w.alloc (.cells #[.int .u8 (y.toNat : Int)] 5 fr)).heap.size (some ⟨w.heap.size, 0, none⟩) [y] := .inr ⟨_, _, by rw [World.size_alloc]; omega, rfl, lit_at y w fr⟩
theorem scan_nil : scan [] 0 = ([], 0) := scan_no [] 0 (fun h => by have := h.1; simp at this)
theorem scan_one (l : List UInt8) (hl : l.length = 18) (ht : l.take 15 = frame 1 [97]) : scan l 0 = ([[97]], 15) := by
  have h2 : (l.drop 8).take 2 = digs 2 1 := by
    have e : (l.drop 8).take 2 = ((l.take 15).drop 8).take 2 := by rw [List.drop_take, List.take_take]; rfl
    rw [e, ht]
    have : frame 1 [97] = digs 8 1 ++ (digs 2 1 ++ (digs 4 (crcOf (hd 1 [97] ++ [97]) : Int) ++ [97])) := by simp [frame, hd]
    rw [this, List.drop_append_of_le_length (by rw [digs_length]; omega), show (digs 8 1).drop 8 = [] from List.drop_eq_nil_of_le (by rw [digs_length]; omega), List.nil_append, List.take_append_of_le_length (by rw [digs_length]; omega), List.take_of_length_le (by rw [digs_length]; omega)]
  have hsz : szOf l = 1 := by unfold szOf; rw [h2, num_digsP]; rfl
  have h14 : (l.drop 14).take 1 = [97] := by
    have e : (l.drop 14).take 1 = (l.take 15).drop 14 := by rw [List.drop_take]
    rw [e, ht]
    have : frame 1 [97] = (hd 1 [97] ++ digs 4 (crcOf (hd 1 [97] ++ [97]) : Int)) ++ [97] := rfl
    rw [this, List.drop_append_of_le_length (by simp [hd_len, digs_length]), List.drop_eq_nil_of_le (by simp [hd_len, digs_length])]
    rfl
  have hok : firstOk l (((0 : Nat) : Int) + 1) := by
    refine (frame_iff l _ (by omega) (by omega) (by omega) (by omega) (by omega)).1 ?_
    rw [hsz, h14]
    exact ht.symm
  rw [scan_yes l 0 hok, hsz, h14, scan_no (l.drop (14 + 1)) (0 + 1) (fun h => by have := h.1; rw [List.length_drop] at this; omega)]
  rfl
theorem jkept {w w' : World} {base jb db s n rc : Nat} {m q : Int} {v : Value} {l : List UInt8} {RA : Option Addr} (hB : Blk w jb 55 #[.pointer (some ⟨db, 0, none⟩), .slice RA n rc]) (hD : Dk w base db m v l s q) (hR : RowL w base (.slice RA n rc) n) (hk : Kept (fun i => i = db ∨ v.ownBlock = some i) w w') :
    Blk w' jb 55 #[.pointer (some ⟨db, 0, none⟩), .slice RA n rc] ∧ RowL w' base (.slice RA n rc) n := by
  obtain ⟨vs, h1, h2⟩ := hR
  refine ⟨hB.kept hk ?_, vs, h1.kept hk ?_, h2⟩
  · rintro (e | e)
    · exact Blk.ne_ (t := 55) hB hD.blk (by decide) e
    · exact hD.row.ne hB (by decide) e
  · intro g hg e
    rcases e with rfl | e
    · exact h1.ne hD.blk (by decide) hg
    · rcases hD.row.apart h1 (by decide) with h | h
      · rw [hg] at h; cases h
      · exact h (hg.trans e.symm)
theorem Dk.widen {w w' : World} {base db s : Nat} {m q : Int} {v : Value} {l : List UInt8} (h : Dk w base db m v l s q) (hk : Kept (fun i => i = db ∨ v.ownBlock = some i) w w') : Kept (fun i => base ≤ i) w w' := hk.mono (fun i _ e => by
  rcases e with rfl | e
  · exact h.at_
  · exact (h.row.lt i e).1)
theorem lit_kept {w : World} {base db s : Nat} {m q : Int} {v : Value} {l : List UInt8} (y : UInt8) (fr : Nat × Nat) (h : Dk w base db m v l s q) : ∀ w', Kept (fun i => i = db ∨ v.ownBlock = some i) (w.alloc (.cells #[.int .u8 (y.toNat : Int)] 5 fr)) w' → BS w' w'.heap.size (some ⟨w.heap.size, 0, none⟩) [y] := fun w' hk => by
  refine .inr ⟨_, _, ?_, rfl, (lit_at y w fr).kept hk (by rw [World.size_alloc]; omega) ?_⟩
  · have := hk.size; rw [World.size_alloc] at this; omega
  rintro (e | e)
  · have := h.blk.lt; omega
  · have := (h.row.lt _ e).2; omega
set_option maxHeartbeats 4000000 in
theorem awake_any (w : World) : Calls Try.prog 4 #[] w fun e w' => e = .returned (.bool true) ∧ Below w.heap.size w w' := by
  obtain ⟨B, hB⟩ : ∃ B, w.heap.size = B := ⟨_, rfl⟩
  have HB := Lib.hid hB
  have hcv := fun (w : World) (C : Array Value) (n c : Nat) => Lib.run_convert_bytes_const (P := Try.prog) w 22 5 C n c Try.underlying22 Try.underlying5
  go_enter Try.func4, Try.ntmps4
  go_wp2_with fail
  refine (dnew_any 100 w (by omega)).mono ?_
  rintro e w1 ⟨rfl, hD, hb⟩
  rw [hB] at hD hb ⊢
  have HK1 := Lib.hid (show Kept (fun i => B ≤ i) w w1 from Kept.of_below hb (fun i _ h => h))
  have HS1 := Lib.hid (show B ≤ w1.heap.size by have := hb.size; omega)
  have HD1 := Lib.hid hD
  clear hD hb hB
  go_wp2_with fail
  refine (open_any B B 0 100 0 (.slice none 0 0) [] w1 (by simp) (by rw [scan_nil]; simp) HS1.out HD1.out).mono ?_
  rintro e w2 ⟨jb, v2, RA, rc, rfl, hjb, hJ, hD2, hRL, hK2⟩
  rw [scan_nil] at hJ hD2 hRL
  have HJ2 := Lib.hid (show Blk w2 jb 55 #[.pointer (some ⟨B, 0, none⟩), .slice RA 0 rc] from hJ)
  have HD2 := Lib.hid (show Dk w2 B B 100 v2 [] 0 0 from hD2)
  have HR2 := Lib.hid (show RowL w2 B (.slice RA 0 rc) 0 from hRL)
  have HJB := Lib.hid (show B ≤ jb from Nat.le_trans HS1.out hjb)
  have HK2 := Lib.hid (HK1.out.trans (HD1.out.widen hK2))
  have HS2 := Lib.hid (show B ≤ w2.heap.size from Nat.le_trans HS1.out hK2.size)
  clear hjb hJ hD2 hRL hK2
  go_wp2_with fail
  refine (jwrite_any jb B B 0 0 1 rc 100 0 v2 RA (some ⟨w2.heap.size, 0, none⟩) [] [97] _ (by decide) (by omega) (by decide) (by omega) (by rw [World.size_alloc]; have := HS2.out; omega) HJB.out (HJ2.out.alloc _) (HD2.out.kept ((Kept.refl _ _).alloc _)) (by obtain ⟨vs, h1, h2⟩ := HR2.out; exact ⟨vs, h1.alloc _, h2⟩) (lit_bs 97 w2 _) (lit_kept 97 _ HD2.out)).mono ?_
  rintro e w3 ⟨v3, RA3, rc3, rfl, hD3, hJ3, hR3, hK3⟩
  obtain ⟨F1, hF1⟩ : ∃ F1, frame (((0 : Nat) : Int) + 1) [97] = F1 := ⟨_, rfl⟩
  rw [hF1] at hD3
  have HF1 := Lib.hid hF1
  have HL1 := Lib.hid (show F1.length = 15 by rw [← hF1]; exact frame_len _ _)
  have HD3 := Lib.hid (show Dk w3 B B 100 v3 F1 0 0 from hD3)
  have HJ3 := Lib.hid (show Blk w3 jb 55 #[.pointer (some ⟨B, 0, none⟩), .slice RA3 1 rc3] from hJ3)
  have HR3 := Lib.hid (show RowL w3 B (.slice RA3 1 rc3) 1 from hR3)
  have HK3 := Lib.hid (show Kept (fun i => B ≤ i) w w3 from (HK2.out.alloc _).trans hK3)
  clear hD3 hJ3 hR3 hK3 hF1
  go_wp2_with fail
  refine (jsync_any jb B B 0 100 0 v3 (.slice RA3 1 rc3) F1 w3 (by have := HL1.out; omega) (by omega) (by omega) HJ3.out HD3.out).mono ?_
  rintro e w4 ⟨rfl, hD4, hK4⟩
  rw [HL1.out] at hD4
  have HD4 := Lib.hid (show Dk w4 B B 100 v3 F1 15 1 from hD4)
  have hj4 := jkept HJ3.out HD3.out HR3.out hK4
  have HJ4 := Lib.hid hj4.1
  have HR4 := Lib.hid hj4.2
  have HK4 := Lib.hid (show Kept (fun i => B ≤ i) w w4 from HK3.out.trans (HD3.out.widen hK4))
  have HS4 := Lib.hid (show B ≤ w4.heap.size by have := HK4.out.size; have := HB.out; omega)
  clear hD4 hj4 hK4
  go_wp2_with fail
  refine (jwrite_any jb B B 15 1 1 rc3 100 1 v3 RA3 (some ⟨w4.heap.size, 0, none⟩) F1 [98] _ (by decide) (by omega) (by have := HL1.out; simp; omega) (by omega) (by rw [World.size_alloc]; have := HS4.out; omega) HJB.out (HJ4.out.alloc _) (HD4.out.kept ((Kept.refl _ _).alloc _)) (by obtain ⟨vs, h1, h2⟩ := HR4.out; exact ⟨vs, h1.alloc _, h2⟩) (lit_bs 98 w4 _) (lit_kept 98 _ HD4.out)).mono ?_
  rintro e w5 ⟨v5, RA5, rc5, rfl, hD5, hJ5, hR5, hK5⟩
  obtain ⟨F2, hF2⟩ : ∃ F2, frame (((1 : Nat) : Int) + 1) [98] = F2 := ⟨_, rfl⟩
  have HL2 := Lib.hid (show F2.length = 15 by rw [← hF2]; exact frame_len _ _)
  rw [hF2] at hD5
  have HD5 := Lib.hid hD5
  have HK5 := Lib.hid (show Kept (fun i => B ≤ i) w w5 from (HK4.out.alloc _).trans hK5)
  clear hD5 hJ5 hR5 hK5 hF2
  go_wp2_with fail
  refine (dcrash_any B B 15 3 100 1 3 0 v5 (F1 ++ F2) w5 (by rw [List.length_append, HL1.out, HL2.out]; omega) (by rw [List.length_append, HL1.out, HL2.out]; omega) (by omega) (by omega) (by rw [List.length_append, HL1.out, HL2.out]; rfl) HD5.out).mono ?_
  rintro e w6 ⟨v6, l6, rfl, hl6, ht6, hD6, hK6⟩
  have e15 : (F1 ++ F2).take 15 = F1 := by rw [List.take_append_of_le_length (by rw [HL1.out]; exact Nat.le_refl _), List.take_of_length_le (by rw [HL1.out]; exact Nat.le_refl _)]
  rw [e15] at ht6
  have ht7 : l6.take 15 = frame 1 [97] := ht6.trans HF1.out.symm
  have HSC := Lib.hid (scan_one l6 hl6 ht7)
  have HL6 := Lib.hid hl6
  have HD6 := Lib.hid hD6
  have HK6 := Lib.hid (show Kept (fun i => B ≤ i) w w6 from HK5.out.trans (HD5.out.widen hK6))
  have HS6 := Lib.hid (show B ≤ w6.heap.size by have := HK6.out.size; have := HB.out; omega)
  clear hl6 ht6 ht7 e15 hD6 hK6
  go_wp2_with fail
  refine (open_any B B (15 + 3) 100 1 v6 l6 w6 (by have := HL6.out; omega) (by rw [HSC.out]; have := HL6.out; simp; omega) HS6.out HD6.out).mono ?_
  rintro e w7 ⟨kb, v7, RA7, rc7, rfl, hkb, hJ7, -, -, hK7⟩
  rw [HSC.out] at hJ7
  have HJ7 := Lib.hid (show Blk w7 kb 55 #[.pointer (some ⟨B, 0, none⟩), .slice RA7 1 rc7] from hJ7)
  have HK7 := Lib.hid (show Kept (fun i => B ≤ i) w w7 from HK6.out.trans (HD6.out.widen hK7))
  clear hkb hJ7 hK7
  go_wp2_with fail
  refine (jlen_any kb B 1 RA7 rc7 w7 HJ7.out).mono ?_
  rintro e w8 ⟨rfl, rfl⟩
  go_wp2_with fail
  go_ret
  exact ⟨rfl, by rw [← HB.out] at HK7; exact HK7.out.below (Nat.le_refl _) (fun i h => h)⟩
end Go.Proofs.Ytnfolopodjdlbaa
