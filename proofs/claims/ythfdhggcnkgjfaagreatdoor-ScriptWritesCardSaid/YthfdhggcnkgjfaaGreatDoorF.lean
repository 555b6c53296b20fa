/- Arguments that are steps, opened. -/
import Derived.Test.YthfdhggcnkgjfaaGreatDoorRows
import Derived.Test.YthfdhggcnkgjfaaGreatDoorBase
import Derived.Lib.SmallJoins
import Derived.Deep.Cut
import Derived.Deep.Light
import Derived.Outline
import Derived.Deep.AppendLies
namespace Go.Proofs.YthfdhggcnkgjfaaGreatDoor
open Go.Joins Go.ChangeShapes Go.WideShapes Go.ChangeAt Go.RowKit Go.Deep
set_option linter.unusedVariables false
set_option maxHeartbeats 2000000
set_option linter.unusedSimpArgs false
set_option maxRecDepth 4000
/-- A slice of members as a value. -/
structure Mb where
  back : Int
  weight : Int
def Mb.cs (a : Mb) : List Value := [.int .i64 a.back, .int .i64 a.weight]
def MbOk (a : Mb) : Prop := (-9223372036854775808 ≤ a.back ∧ a.back ≤ 9223372036854775807) ∧ (-9223372036854775808 ≤ a.weight ∧ a.weight ≤ 9223372036854775807)
theorem Mb.cs_len (a : Mb) : a.cs.length = 2 := rfl
structure MV where
  A : Option Addr
  c : Nat
  l : List Mb
def MV.cs (x : MV) : List Value := [.slice x.A x.l.length x.c]
def MV.wf (x : MV) (w : World) : Prop := x.l.length ≤ x.c ∧ x.c ≤ maxLen ∧ ES w w.heap.size x.A 2 (x.l.map Mb.cs) ∧ ∀ m ∈ x.l, MbOk m
theorem trod_Mb {H : Type} {enc : TypeId × Value → H} {w : World} {base : Nat} {spare : Nat → Bool} {held : Bool} {fuel : Nat} {l : List Value} {x : DataW H × List MemPlace} (h : DataW.trod enc Tryz.prog w base spare held fuel 69 l = some x) (hl : l.length = 2) : ∃ a : Mb, l = a.cs ∧ MbOk a := by
  match l, hl with
  | [c0, c1], _ =>
    obtain ⟨xs, n, -, -, -, hlen, hg⟩ := DataW.trod_struct Tryz.underlying69 h
    have hlk : xs.length = 2 := hlen
    have g0 : DataW.trod enc Tryz.prog w base spare held n 3 (([c0, c1].drop 0).take (Tryz.prog.cellsOf 3)) = xs[0]? := hg 0 _ rfl
    have g1 : DataW.trod enc Tryz.prog w base spare held n 3 (([c0, c1].drop 1).take (Tryz.prog.cellsOf 3)) = xs[1]? := hg 1 _ rfl
    rw [show Tryz.prog.cellsOf 3 = 1 by kernel_rfl, List.getElem?_eq_getElem (by omega)] at g0 g1
    obtain ⟨a0, e0, -, z0⟩ := DataW.trod_int Tryz.underlying3 g0
    obtain ⟨a1, e1, -, z1⟩ := DataW.trod_int Tryz.underlying3 g1
    simp [Lit.wf, IntKind.min, IntKind.max, IntKind.signed, IntKind.bits] at e0 e1 z0 z1
    subst e0 e1
    exact ⟨⟨a0, a1⟩, rfl, ⟨by simpa using z0.1, by simpa using z0.2⟩, ⟨by simpa using z1.1, by simpa using z1.2⟩⟩
theorem trod_MV {H : Type} {enc : TypeId × Value → H} {w : World} {base : Nat} {spare : Nat → Bool} {held : Bool} {fuel : Nat} {l : List Value} {x : DataW H × List MemPlace} (h : DataW.trod enc Tryz.prog w base spare held fuel 37 l = some x) (hl : l.length = 1) : ∃ a : MV, l = a.cs ∧ a.wf w := by
  match l, hl with
  | [c0], _ =>
    obtain ⟨A, len, cap, e⟩ := trod_slice_form Tryz.underlying37 h
    injection e with e
    subst e
    obtain ⟨L, rfl, h1, h2, h3, h4⟩ := open_elems (e := 69) (sz := 2) Mb.cs MbOk ⟨0, 0⟩ Tryz.underlying37 (by kernel_rfl) (by omega) (fun _ => rfl) (fun fuel l x h hl => trod_Mb h hl) h
    exact ⟨⟨A, cap, L⟩, rfl, h1, h2, h3, h4⟩
structure Ad where
  six : Bool
  high : Int
  low : Int
def Ad.cs (a : Ad) : List Value := [.bool a.six, .int .u64 a.high, .int .u64 a.low]
def Ad.wf (a : Ad) (w : World) : Prop := (0 ≤ a.high ∧ a.high ≤ 18446744073709551615) ∧ (0 ≤ a.low ∧ a.low ≤ 18446744073709551615)
theorem trod_Ad {H : Type} {enc : TypeId × Value → H} {w : World} {base : Nat} {spare : Nat → Bool} {held : Bool} {fuel : Nat} {l : List Value} {x : DataW H × List MemPlace} (h : DataW.trod enc Tryz.prog w base spare held fuel 25 l = some x) (hl : l.length = 3) : ∃ a : Ad, l = a.cs ∧ a.wf w := by
  match l, hl with
  | [c0, c1, c2], _ =>
    obtain ⟨xs, n, -, -, -, hlen, hg⟩ := DataW.trod_struct Tryz.underlying25 h
    have hlk : xs.length = 3 := hlen
    have g0 : DataW.trod enc Tryz.prog w base spare held n 4 (([c0, c1, c2].drop 0).take (Tryz.prog.cellsOf 4)) = xs[0]? := hg 0 _ rfl
    rw [show Tryz.prog.cellsOf 4 = 1 by kernel_rfl, List.getElem?_eq_getElem (by omega)] at g0
    have g1 : DataW.trod enc Tryz.prog w base spare held n 23 (([c0, c1, c2].drop 1).take (Tryz.prog.cellsOf 23)) = xs[1]? := hg 1 _ rfl
    rw [show Tryz.prog.cellsOf 23 = 1 by kernel_rfl, List.getElem?_eq_getElem (by omega)] at g1
    have g2 : DataW.trod enc Tryz.prog w base spare held n 23 (([c0, c1, c2].drop 2).take (Tryz.prog.cellsOf 23)) = xs[2]? := hg 2 _ rfl
    rw [show Tryz.prog.cellsOf 23 = 1 by kernel_rfl, List.getElem?_eq_getElem (by omega)] at g2
    obtain ⟨a0, e0, -⟩ := DataW.trod_bool Tryz.underlying4 g0
    simp at e0
    subst e0
    obtain ⟨a1, e1, -, z1⟩ := DataW.trod_int Tryz.underlying23 g1
    simp [Lit.wf, IntKind.min, IntKind.max, IntKind.signed, IntKind.bits] at e1 z1
    subst e1
    obtain ⟨a2, e2, -, z2⟩ := DataW.trod_int Tryz.underlying23 g2
    simp [Lit.wf, IntKind.min, IntKind.max, IntKind.signed, IntKind.bits] at e2 z2
    subst e2
    exact ⟨⟨a0, a1, a2⟩, rfl, ⟨⟨by simpa using z1.1, by simpa using z1.2⟩, ⟨by simpa using z2.1, by simpa using z2.2⟩⟩⟩
structure Ops where
  kind : Int
  vip : Int
  backend : Int
  version : Int
  addr : Ad
  port : Int
  proto : Int
  way : Int
  mem : MV
def Ops.cs (a : Ops) : List Value := [.int .i64 a.kind] ++ [.int .i64 a.vip] ++ [.int .i64 a.backend] ++ [.int .i64 a.version] ++ a.addr.cs ++ [.int .u16 a.port] ++ [.int .u8 a.proto] ++ [.int .i64 a.way] ++ a.mem.cs
def Ops.wf (a : Ops) (w : World) : Prop := (-9223372036854775808 ≤ a.kind ∧ a.kind ≤ 9223372036854775807) ∧ (-9223372036854775808 ≤ a.vip ∧ a.vip ≤ 9223372036854775807) ∧ (-9223372036854775808 ≤ a.backend ∧ a.backend ≤ 9223372036854775807) ∧ (-9223372036854775808 ≤ a.version ∧ a.version ≤ 9223372036854775807) ∧ a.addr.wf w ∧ (0 ≤ a.port ∧ a.port ≤ 65535) ∧ (0 ≤ a.proto ∧ a.proto ≤ 255) ∧ (-9223372036854775808 ≤ a.way ∧ a.way ≤ 9223372036854775807) ∧ a.mem.wf w
theorem trod_Ops {H : Type} {enc : TypeId × Value → H} {w : World} {base : Nat} {spare : Nat → Bool} {held : Bool} {fuel : Nat} {l : List Value} {x : DataW H × List MemPlace} (h : DataW.trod enc Tryz.prog w base spare held fuel 39 l = some x) (hl : l.length = 11) : ∃ a : Ops, l = a.cs ∧ a.wf w := by
  match l, hl with
  | [c0, c1, c2, c3, c4, c5, c6, c7, c8, c9, c10], _ =>
    obtain ⟨xs, n, -, -, -, hlen, hg⟩ := DataW.trod_struct Tryz.underlying39 h
    have hlk : xs.length = 9 := hlen
    have g0 : DataW.trod enc Tryz.prog w base spare held n 3 (([c0, c1, c2, c3, c4, c5, c6, c7, c8, c9, c10].drop 0).take (Tryz.prog.cellsOf 3)) = xs[0]? := hg 0 _ rfl
    rw [show Tryz.prog.cellsOf 3 = 1 by kernel_rfl, List.getElem?_eq_getElem (by omega)] at g0
    have g1 : DataW.trod enc Tryz.prog w base spare held n 3 (([c0, c1, c2, c3, c4, c5, c6, c7, c8, c9, c10].drop 1).take (Tryz.prog.cellsOf 3)) = xs[1]? := hg 1 _ rfl
    rw [show Tryz.prog.cellsOf 3 = 1 by kernel_rfl, List.getElem?_eq_getElem (by omega)] at g1
    have g2 : DataW.trod enc Tryz.prog w base spare held n 3 (([c0, c1, c2, c3, c4, c5, c6, c7, c8, c9, c10].drop 2).take (Tryz.prog.cellsOf 3)) = xs[2]? := hg 2 _ rfl
    rw [show Tryz.prog.cellsOf 3 = 1 by kernel_rfl, List.getElem?_eq_getElem (by omega)] at g2
    have g3 : DataW.trod enc Tryz.prog w base spare held n 3 (([c0, c1, c2, c3, c4, c5, c6, c7, c8, c9, c10].drop 3).take (Tryz.prog.cellsOf 3)) = xs[3]? := hg 3 _ rfl
    rw [show Tryz.prog.cellsOf 3 = 1 by kernel_rfl, List.getElem?_eq_getElem (by omega)] at g3
    have g4 : DataW.trod enc Tryz.prog w base spare held n 25 (([c0, c1, c2, c3, c4, c5, c6, c7, c8, c9, c10].drop 4).take (Tryz.prog.cellsOf 25)) = xs[4]? := hg 4 _ rfl
    rw [show Tryz.prog.cellsOf 25 = 3 by kernel_rfl, List.getElem?_eq_getElem (by omega)] at g4
    have g5 : DataW.trod enc Tryz.prog w base spare held n 26 (([c0, c1, c2, c3, c4, c5, c6, c7, c8, c9, c10].drop 7).take (Tryz.prog.cellsOf 26)) = xs[5]? := hg 5 _ rfl
    rw [show Tryz.prog.cellsOf 26 = 1 by kernel_rfl, List.getElem?_eq_getElem (by omega)] at g5
    have g6 : DataW.trod enc Tryz.prog w base spare held n 5 (([c0, c1, c2, c3, c4, c5, c6, c7, c8, c9, c10].drop 8).take (Tryz.prog.cellsOf 5)) = xs[6]? := hg 6 _ rfl
    rw [show Tryz.prog.cellsOf 5 = 1 by kernel_rfl, List.getElem?_eq_getElem (by omega)] at g6
    have g7 : DataW.trod enc Tryz.prog w base spare held n 3 (([c0, c1, c2, c3, c4, c5, c6, c7, c8, c9, c10].drop 9).take (Tryz.prog.cellsOf 3)) = xs[7]? := hg 7 _ rfl
    rw [show Tryz.prog.cellsOf 3 = 1 by kernel_rfl, List.getElem?_eq_getElem (by omega)] at g7
    have g8 : DataW.trod enc Tryz.prog w base spare held n 37 (([c0, c1, c2, c3, c4, c5, c6, c7, c8, c9, c10].drop 10).take (Tryz.prog.cellsOf 37)) = xs[8]? := hg 8 _ rfl
    rw [show Tryz.prog.cellsOf 37 = 1 by kernel_rfl, List.getElem?_eq_getElem (by omega)] at g8
    obtain ⟨a0, e0, -, z0⟩ := DataW.trod_int Tryz.underlying3 g0
    simp [Lit.wf, IntKind.min, IntKind.max, IntKind.signed, IntKind.bits] at e0 z0
    subst e0
    obtain ⟨a1, e1, -, z1⟩ := DataW.trod_int Tryz.underlying3 g1
    simp [Lit.wf, IntKind.min, IntKind.max, IntKind.signed, IntKind.bits] at e1 z1
    subst e1
    obtain ⟨a2, e2, -, z2⟩ := DataW.trod_int Tryz.underlying3 g2
    simp [Lit.wf, IntKind.min, IntKind.max, IntKind.signed, IntKind.bits] at e2 z2
    subst e2
    obtain ⟨a3, e3, -, z3⟩ := DataW.trod_int Tryz.underlying3 g3
    simp [Lit.wf, IntKind.min, IntKind.max, IntKind.signed, IntKind.bits] at e3 z3
    subst e3
    obtain ⟨a4, e4, z4⟩ := trod_Ad g4 rfl
    have e4' : [c4, c5, c6] = a4.cs := e4
    unfold Ad.cs at e4'
    first | simp only [List.cons.injEq, and_true] at e4' | simp only [List.cons_append, List.nil_append, List.cons.injEq, and_true] at e4'
    obtain ⟨rfl, rfl, rfl⟩ := e4'
    obtain ⟨a5, e5, -, z5⟩ := DataW.trod_int Tryz.underlying26 g5
    simp [Lit.wf, IntKind.min, IntKind.max, IntKind.signed, IntKind.bits] at e5 z5
    subst e5
    obtain ⟨a6, e6, -, z6⟩ := DataW.trod_int Tryz.underlying5 g6
    simp [Lit.wf, IntKind.min, IntKind.max, IntKind.signed, IntKind.bits] at e6 z6
    subst e6
    obtain ⟨a7, e7, -, z7⟩ := DataW.trod_int Tryz.underlying3 g7
    simp [Lit.wf, IntKind.min, IntKind.max, IntKind.signed, IntKind.bits] at e7 z7
    subst e7
    obtain ⟨a8, e8, z8⟩ := trod_MV g8 rfl
    have e8' : [c10] = a8.cs := e8
    unfold MV.cs at e8'
    first | simp only [List.cons.injEq, and_true] at e8' | simp only [List.cons_append, List.nil_append, List.cons.injEq, and_true] at e8'
    obtain ⟨rfl⟩ := e8'
    exact ⟨⟨a0, a1, a2, a3, a4, a5, a6, a7, a8⟩, rfl, ⟨⟨by simpa using z0.1, by simpa using z0.2⟩, ⟨by simpa using z1.1, by simpa using z1.2⟩, ⟨by simpa using z2.1, by simpa using z2.2⟩, ⟨by simpa using z3.1, by simpa using z3.2⟩, z4, ⟨by simpa using z5.1, by simpa using z5.2⟩, ⟨by simpa using z6.1, by simpa using z6.2⟩, ⟨by simpa using z7.1, by simpa using z7.2⟩, z8⟩⟩
structure St where
  kind : Int
  op : Ops
  who : Int
  time : Int
  flags : Int
  load : BV
  n : Int
  x : Int
  y : Int
  src : Ad
  port : Int
def St.cs (a : St) : List Value := [.int .i64 a.kind] ++ a.op.cs ++ [.int .i64 a.who] ++ [.int .i64 a.time] ++ [.int .u8 a.flags] ++ [a.load.val] ++ [.int .u32 a.n] ++ [.int .u32 a.x] ++ [.int .u32 a.y] ++ a.src.cs ++ [.int .u16 a.port]
def St.wf (a : St) (w : World) : Prop := (-9223372036854775808 ≤ a.kind ∧ a.kind ≤ 9223372036854775807) ∧ a.op.wf w ∧ (-9223372036854775808 ≤ a.who ∧ a.who ≤ 9223372036854775807) ∧ (-9223372036854775808 ≤ a.time ∧ a.time ≤ 9223372036854775807) ∧ (0 ≤ a.flags ∧ a.flags ≤ 255) ∧ a.load.ok w ∧ (0 ≤ a.n ∧ a.n ≤ 4294967295) ∧ (0 ≤ a.x ∧ a.x ≤ 4294967295) ∧ (0 ≤ a.y ∧ a.y ≤ 4294967295) ∧ a.src.wf w ∧ (0 ≤ a.port ∧ a.port ≤ 65535)
theorem trod_St {H : Type} {enc : TypeId × Value → H} {w : World} {base : Nat} {spare : Nat → Bool} {held : Bool} {fuel : Nat} {l : List Value} {x : DataW H × List MemPlace} (h : DataW.trod enc Tryz.prog w base spare held fuel 41 l = some x) (hl : l.length = 23) : ∃ a : St, l = a.cs ∧ a.wf w := by
  match l, hl with
  | [c0, c1, c2, c3, c4, c5, c6, c7, c8, c9, c10, c11, c12, c13, c14, c15, c16, c17, c18, c19, c20, c21, c22], _ =>
    obtain ⟨xs, n, -, -, -, hlen, hg⟩ := DataW.trod_struct Tryz.underlying41 h
    have hlk : xs.length = 11 := hlen
    have g0 : DataW.trod enc Tryz.prog w base spare held n 3 (([c0, c1, c2, c3, c4, c5, c6, c7, c8, c9, c10, c11, c12, c13, c14, c15, c16, c17, c18, c19, c20, c21, c22].drop 0).take (Tryz.prog.cellsOf 3)) = xs[0]? := hg 0 _ rfl
    rw [show Tryz.prog.cellsOf 3 = 1 by kernel_rfl, List.getElem?_eq_getElem (by omega)] at g0
    have g1 : DataW.trod enc Tryz.prog w base spare held n 39 (([c0, c1, c2, c3, c4, c5, c6, c7, c8, c9, c10, c11, c12, c13, c14, c15, c16, c17, c18, c19, c20, c21, c22].drop 1).take (Tryz.prog.cellsOf 39)) = xs[1]? := hg 1 _ rfl
    rw [show Tryz.prog.cellsOf 39 = 11 by kernel_rfl, List.getElem?_eq_getElem (by omega)] at g1
    have g2 : DataW.trod enc Tryz.prog w base spare held n 3 (([c0, c1, c2, c3, c4, c5, c6, c7, c8, c9, c10, c11, c12, c13, c14, c15, c16, c17, c18, c19, c20, c21, c22].drop 12).take (Tryz.prog.cellsOf 3)) = xs[2]? := hg 2 _ rfl
    rw [show Tryz.prog.cellsOf 3 = 1 by kernel_rfl, List.getElem?_eq_getElem (by omega)] at g2
    have g3 : DataW.trod enc Tryz.prog w base spare held n 3 (([c0, c1, c2, c3, c4, c5, c6, c7, c8, c9, c10, c11, c12, c13, c14, c15, c16, c17, c18, c19, c20, c21, c22].drop 13).take (Tryz.prog.cellsOf 3)) = xs[3]? := hg 3 _ rfl
    rw [show Tryz.prog.cellsOf 3 = 1 by kernel_rfl, List.getElem?_eq_getElem (by omega)] at g3
    have g4 : DataW.trod enc Tryz.prog w base spare held n 5 (([c0, c1, c2, c3, c4, c5, c6, c7, c8, c9, c10, c11, c12, c13, c14, c15, c16, c17, c18, c19, c20, c21, c22].drop 14).take (Tryz.prog.cellsOf 5)) = xs[4]? := hg 4 _ rfl
    rw [show Tryz.prog.cellsOf 5 = 1 by kernel_rfl, List.getElem?_eq_getElem (by omega)] at g4
    have g5 : DataW.trod enc Tryz.prog w base spare held n 30 (([c0, c1, c2, c3, c4, c5, c6, c7, c8, c9, c10, c11, c12, c13, c14, c15, c16, c17, c18, c19, c20, c21, c22].drop 15).take (Tryz.prog.cellsOf 30)) = xs[5]? := hg 5 _ rfl
    rw [show Tryz.prog.cellsOf 30 = 1 by kernel_rfl, List.getElem?_eq_getElem (by omega)] at g5
    have g6 : DataW.trod enc Tryz.prog w base spare held n 31 (([c0, c1, c2, c3, c4, c5, c6, c7, c8, c9, c10, c11, c12, c13, c14, c15, c16, c17, c18, c19, c20, c21, c22].drop 16).take (Tryz.prog.cellsOf 31)) = xs[6]? := hg 6 _ rfl
    rw [show Tryz.prog.cellsOf 31 = 1 by kernel_rfl, List.getElem?_eq_getElem (by omega)] at g6
    have g7 : DataW.trod enc Tryz.prog w base spare held n 31 (([c0, c1, c2, c3, c4, c5, c6, c7, c8, c9, c10, c11, c12, c13, c14, c15, c16, c17, c18, c19, c20, c21, c22].drop 17).take (Tryz.prog.cellsOf 31)) = xs[7]? := hg 7 _ rfl
    rw [show Tryz.prog.cellsOf 31 = 1 by kernel_rfl, List.getElem?_eq_getElem (by omega)] at g7
    have g8 : DataW.trod enc Tryz.prog w base spare held n 31 (([c0, c1, c2, c3, c4, c5, c6, c7, c8, c9, c10, c11, c12, c13, c14, c15, c16, c17, c18, c19, c20, c21, c22].drop 18).take (Tryz.prog.cellsOf 31)) = xs[8]? := hg 8 _ rfl
    rw [show Tryz.prog.cellsOf 31 = 1 by kernel_rfl, List.getElem?_eq_getElem (by omega)] at g8
    have g9 : DataW.trod enc Tryz.prog w base spare held n 25 (([c0, c1, c2, c3, c4, c5, c6, c7, c8, c9, c10, c11, c12, c13, c14, c15, c16, c17, c18, c19, c20, c21, c22].drop 19).take (Tryz.prog.cellsOf 25)) = xs[9]? := hg 9 _ rfl
    rw [show Tryz.prog.cellsOf 25 = 3 by kernel_rfl, List.getElem?_eq_getElem (by omega)] at g9
    have g10 : DataW.trod enc Tryz.prog w base spare held n 26 (([c0, c1, c2, c3, c4, c5, c6, c7, c8, c9, c10, c11, c12, c13, c14, c15, c16, c17, c18, c19, c20, c21, c22].drop 22).take (Tryz.prog.cellsOf 26)) = xs[10]? := hg 10 _ rfl
    rw [show Tryz.prog.cellsOf 26 = 1 by kernel_rfl, List.getElem?_eq_getElem (by omega)] at g10
    obtain ⟨a0, e0, -, z0⟩ := DataW.trod_int Tryz.underlying3 g0
    simp [Lit.wf, IntKind.min, IntKind.max, IntKind.signed, IntKind.bits] at e0 z0
    subst e0
    obtain ⟨a1, e1, z1⟩ := trod_Ops g1 rfl
    have e1' : [c1, c2, c3, c4, c5, c6, c7, c8, c9, c10, c11] = a1.cs := e1
    unfold Ops.cs at e1'
    first | simp only [List.cons.injEq, and_true] at e1' | simp only [List.cons_append, List.nil_append, List.cons.injEq, and_true] at e1'
    obtain ⟨rfl, rfl, rfl, rfl, rfl, rfl, rfl, rfl, rfl, rfl, rfl⟩ := e1'
    obtain ⟨a2, e2, -, z2⟩ := DataW.trod_int Tryz.underlying3 g2
    simp [Lit.wf, IntKind.min, IntKind.max, IntKind.signed, IntKind.bits] at e2 z2
    subst e2
    obtain ⟨a3, e3, -, z3⟩ := DataW.trod_int Tryz.underlying3 g3
    simp [Lit.wf, IntKind.min, IntKind.max, IntKind.signed, IntKind.bits] at e3 z3
    subst e3
    obtain ⟨a4, e4, -, z4⟩ := DataW.trod_int Tryz.underlying5 g4
    simp [Lit.wf, IntKind.min, IntKind.max, IntKind.signed, IntKind.bits] at e4 z4
    subst e4
    obtain ⟨a5, rfl, z5⟩ := trod_bytes Tryz.underlying30 Tryz.underlying5 (by kernel_rfl) g5
    obtain ⟨a6, e6, -, z6⟩ := DataW.trod_int Tryz.underlying31 g6
    simp [Lit.wf, IntKind.min, IntKind.max, IntKind.signed, IntKind.bits] at e6 z6
    subst e6
    obtain ⟨a7, e7, -, z7⟩ := DataW.trod_int Tryz.underlying31 g7
    simp [Lit.wf, IntKind.min, IntKind.max, IntKind.signed, IntKind.bits] at e7 z7
    subst e7
    obtain ⟨a8, e8, -, z8⟩ := DataW.trod_int Tryz.underlying31 g8
    simp [Lit.wf, IntKind.min, IntKind.max, IntKind.signed, IntKind.bits] at e8 z8
    subst e8
    obtain ⟨a9, e9, z9⟩ := trod_Ad g9 rfl
    have e9' : [c19, c20, c21] = a9.cs := e9
    unfold Ad.cs at e9'
    first | simp only [List.cons.injEq, and_true] at e9' | simp only [List.cons_append, List.nil_append, List.cons.injEq, and_true] at e9'
    obtain ⟨rfl, rfl, rfl⟩ := e9'
    obtain ⟨a10, e10, -, z10⟩ := DataW.trod_int Tryz.underlying26 g10
    simp [Lit.wf, IntKind.min, IntKind.max, IntKind.signed, IntKind.bits] at e10 z10
    subst e10
    exact ⟨⟨a0, a1, a2, a3, a4, a5, a6, a7, a8, a9, a10⟩, rfl, ⟨⟨by simpa using z0.1, by simpa using z0.2⟩, z1, ⟨by simpa using z2.1, by simpa using z2.2⟩, ⟨by simpa using z3.1, by simpa using z3.2⟩, ⟨by simpa using z4.1, by simpa using z4.2⟩, z5, ⟨by simpa using z6.1, by simpa using z6.2⟩, ⟨by simpa using z7.1, by simpa using z7.2⟩, ⟨by simpa using z8.1, by simpa using z8.2⟩, z9, ⟨by simpa using z10.1, by simpa using z10.2⟩⟩⟩
theorem open_step {H : Type} {enc : TypeId × Value → H} {w : World} {base : Nat} {spare : Nat → Bool} {held : Bool} {r : Reach} {b0 : Nat} {v : Value} {d : DataW H} {p : List MemPlace} (hv : Value.okWide Tryz.prog w r b0 41 v) (h : DataW.Trod enc Tryz.prog w base spare held 41 v d p) : ∃ a : St, v = .agg a.cs.toArray ∧ a.wf w := by
  obtain ⟨cs, rfl, hsz⟩ := okWide_struct Tryz.underlying41 hv
  obtain ⟨l⟩ := cs
  have hl : l.length = 23 := hsz.trans (by kernel_rfl)
  obtain ⟨fuel, hf⟩ := h
  have hf' : DataW.trod enc Tryz.prog w base spare held fuel 41 l = some (d, p) := by
    match l, hl with
    | [c0, c1, c2, c3, c4, c5, c6, c7, c8, c9, c10, c11, c12, c13, c14, c15, c16, c17, c18, c19, c20, c21, c22], _ => exact hf
  obtain ⟨a, rfl, ha⟩ := trod_St hf' hl
  exact ⟨a, rfl, ha⟩
end Go.Proofs.YthfdhggcnkgjfaaGreatDoor
/- slices.Equal of bytes and of members. -/
namespace Go.Proofs.YthfdhggcnkgjfaaGreatDoor
open Go.RowKit
set_option linter.unusedVariables false
theorem take_snoc_eq {α : Type} {l m : List α} {k : Nat} (h : l.take k = m.take k) (hk : k < l.length) (hm : k < m.length) (e : l[k] = m[k]) : l.take (k + 1) = m.take (k + 1) := by
  rw [List.take_succ_eq_append_getElem hk, List.take_succ_eq_append_getElem hm, h, e]
theorem ne_of_get {α : Type} {l m : List α} {k : Nat} (hk : k < l.length) (hm : k < m.length) (e : l[k] ≠ m[k]) : ¬ l = m := fun h => e (by subst h; rfl)
theorem eqB_len (A A' : Option Addr) (c c' : Nat) (l m : List UInt8) (w : World) (h : l.length ≠ m.length) :
    Calls Tryz.prog 21 #[.slice A l.length c, .slice A' m.length c'] w fun e w' => e = .returned (.bool false) ∧ Below w.heap.size w w' := by
  have hI : ((l.length : Int)) ≠ (m.length : Int) := by omega
  go_enter Tryz.func21, Tryz.ntmps21
  go_wp2_with fail
  go_ret
  exact ⟨rfl, Below.refl _ _⟩
set_option maxHeartbeats 2000000 in
theorem eqB_cells (b off b' off' : Nat) (c c' : Nat) (l m : List UInt8) (w : World) (h : l.length = m.length) (hm : l.length ≤ maxLen) (hl : BytesAt w b off l) (hr : BytesAt w b' off' m) (hb : b < w.heap.size) (hb' : b' < w.heap.size) :
    Calls Tryz.prog 21 #[.slice (some ⟨b, off, none⟩) l.length c, .slice (some ⟨b', off', none⟩) m.length c'] w fun e w' => e = .returned (.bool (decide (l = m))) ∧ Below w.heap.size w w' := by
  have HL := Lib.hid hl
  have HR := Lib.hid hr
  have HM := Lib.hid hm
  have hI : ((l.length : Int)) = (m.length : Int) := by omega
  clear hl hr hm
  go_enter Tryz.func21, Tryz.ntmps21
  go_wp2_with fail
  go_loopw [13] (fun i wr => ∃ k n : Nat, k ≤ l.length ∧ i = .int .i64 k ∧ Hid (l.take k = m.take k) ∧ wr = w.drewN n) (fun i _ => l.length - (intOf i).toNat)
  case atStart => exact ⟨0, 0, Nat.zero_le _, rfl, Lib.hid (by simp), rfl⟩
  case round =>
    obtain ⟨k, n, hk, rfl, HT, rfl⟩ := hrel
    have hml := HM.out
    unfold maxLen at hml
    by_cases hlt : k < l.length
    · have hlt' : k < m.length := by omega
      have hk0 : (0 : Int) ≤ (k : Int) := Int.natCast_nonneg _
      have hk1 : (k : Int) < (l.length : Int) := by omega
      have hk2 : (k : Int) < (m.length : Int) := by omega
      have hc : w.cell? ⟨b, off + k, none⟩ = some (.int .u8 (l[k].toNat : Int)) := by simpa using HL.out k hlt
      have hc' : w.cell? ⟨b', off' + k, none⟩ = some (.int .u8 (m[k].toNat : Int)) := by simpa using HR.out k hlt'
      by_cases he : l[k] = m[k]
      · have hE : ((l[k].toNat : Int)) = (m[k].toNat : Int) := by rw [he]
        go_wp2_with fail
        go_region
        go_wp2_with fail
        go_roundw
        case rel => exact ⟨k + 1, n + 1, by omega, by go_num, Lib.hid (take_snoc_eq HT.out hlt hlt' he), by simp⟩
        case measure => simp [intOf]; omega
      · have hE : ¬ ((l[k].toNat : Int)) = (m[k].toNat : Int) := fun e => he (UInt8.toNat_inj.1 (by omega))
        have HF := Lib.hid (ne_of_get hlt hlt' he)
        go_wp2_with fail
        go_region
        go_wp2_with fail
        go_ret
        exact ⟨by rw [decide_eq_false HF.out]; rfl, belowN (Below.refl _ _) _⟩
    · have : k = l.length := by omega
      subst this
      have HF := Lib.hid (show l = m by have := HT.out; rwa [List.take_length, h, List.take_length] at this)
      go_wp2_with fail
      go_ret
      exact ⟨by rw [decide_eq_true HF.out]; rfl, belowN (Below.refl _ _) _⟩
theorem eqB_nil (A A' : Option Addr) (c c' : Nat) (w : World) :
    Calls Tryz.prog 21 #[.slice A 0 c, .slice A' 0 c'] w fun e w' => e = .returned (.bool true) ∧ Below w.heap.size w w' := by
  go_enter Tryz.func21, Tryz.ntmps21
  go_wp2_with fail
  refine wp_loop_rounds 1 ?_; rw [rounds_succ]
  go_wp2_with fail
  go_ret
  exact ⟨rfl, Below.refl _ _⟩
theorem eqB_any (A A' : Option Addr) (c c' : Nat) (l m : List UInt8) (w : World) (hm : l.length ≤ maxLen) (hl : BS w w.heap.size A l) (hr : BS w w.heap.size A' m) :
    Calls Tryz.prog 21 #[.slice A l.length c, .slice A' m.length c'] w fun e w' => e = .returned (.bool (decide (l = m))) ∧ Below w.heap.size w w' := by
  by_cases h : l.length = m.length
  · rcases hl with rfl | ⟨b, off, hb, rfl, hl⟩
    · obtain rfl : m = [] := List.eq_nil_of_length_eq_zero h.symm
      exact (eqB_nil A A' c c' w).mono fun e w' ⟨h1, h2⟩ => ⟨by rw [h1]; rfl, h2⟩
    · rcases hr with rfl | ⟨b', off', hb', rfl, hr⟩
      · obtain rfl : l = [] := List.eq_nil_of_length_eq_zero h
        exact (eqB_nil _ A' c c' w).mono fun e w' ⟨h1, h2⟩ => ⟨by rw [h1]; rfl, h2⟩
      · exact eqB_cells b off b' off' c c' l m w h hm hl hr hb hb'
  · refine (eqB_len A A' c c' l m w h).mono fun e w' ⟨h1, h2⟩ => ⟨by rw [h1, decide_eq_false]; exact fun e => h (by rw [e]), h2⟩
end Go.Proofs.YthfdhggcnkgjfaaGreatDoor
/- slices.Equal of members. -/
namespace Go.Proofs.YthfdhggcnkgjfaaGreatDoor
open Go.RowKit
set_option linter.unusedVariables false
instance : DecidableEq Mb := fun a b => if h : a.back = b.back ∧ a.weight = b.weight then isTrue (by cases a; cases b; simp at h; simp [h]) else isFalse (fun e => h (by rw [e]; exact ⟨rfl, rfl⟩))
theorem Mb.get {w : World} {b off : Nat} {l : List Mb} (h : ElAt w b off 2 (l.map Mb.cs)) {k : Nat} (hk : k < l.length) :
    w.cell? ⟨b, off + k * 2, none⟩ = some (.int .i64 l[k].back) ∧ w.cell? ⟨b, off + k * 2 + 1, none⟩ = some (.int .i64 l[k].weight) := by
  have h0 := h.get (k := k) (by simpa using hk) 0 (by omega)
  have h1 := h.get (k := k) (by simpa using hk) 1 (by omega)
  simp [Mb.cs] at h0 h1
  exact ⟨h0, h1⟩
theorem eqM_len (A A' : Option Addr) (c c' : Nat) (l m : List Mb) (w : World) (h : l.length ≠ m.length) :
    Calls Tryz.prog 40 #[.slice A l.length c, .slice A' m.length c'] w fun e w' => e = .returned (.bool false) ∧ Below w.heap.size w w' := by
  have hI : ((l.length : Int)) ≠ (m.length : Int) := by omega
  go_enter Tryz.func40, Tryz.ntmps40
  go_wp2_with fail
  go_ret
  exact ⟨rfl, Below.refl _ _⟩
set_option maxHeartbeats 2000000 in
theorem eqM_cells (b off b' off' : Nat) (c c' : Nat) (l m : List Mb) (w : World) (h : l.length = m.length) (hm : l.length ≤ maxLen) (hl : ElAt w b off 2 (l.map Mb.cs)) (hr : ElAt w b' off' 2 (m.map Mb.cs)) (hb : b < w.heap.size) (hb' : b' < w.heap.size) :
    Calls Tryz.prog 40 #[.slice (some ⟨b, off, none⟩) l.length c, .slice (some ⟨b', off', none⟩) m.length c'] w fun e w' => e = .returned (.bool (decide (l = m))) ∧ Below w.heap.size w w' := by
  have HL := Lib.hid hl
  have HR := Lib.hid hr
  have HM := Lib.hid hm
  have hI : ((l.length : Int)) = (m.length : Int) := by omega
  clear hl hr hm
  go_enter Tryz.func40, Tryz.ntmps40
  go_wp2_with fail
  go_loopw [13] (fun i wr => ∃ k n : Nat, k ≤ l.length ∧ i = .int .i64 k ∧ Hid (l.take k = m.take k) ∧ wr = w.drewN n) (fun i _ => l.length - (intOf i).toNat)
  case atStart => exact ⟨0, 0, Nat.zero_le _, rfl, Lib.hid (by simp), rfl⟩
  case round =>
    obtain ⟨k, n, hk, rfl, HT, rfl⟩ := hrel
    have hml := HM.out
    unfold maxLen at hml
    by_cases hlt : k < l.length
    · have hlt' : k < m.length := by omega
      have hk0 : (0 : Int) ≤ (k : Int) := Int.natCast_nonneg _
      have hk1 : (k : Int) < (l.length : Int) := by omega
      have hk2 : (k : Int) < (m.length : Int) := by omega
      obtain ⟨h0, h1⟩ := Mb.get HL.out hlt
      obtain ⟨h0', h1'⟩ := Mb.get HR.out hlt'
      have c0 : w.cell? ⟨b, off + k * 2, none⟩ = some (.int .i64 l[k].back) := by simpa using h0
      have c1 : w.cell? ⟨b, off + k * 2 + 1, none⟩ = some (.int .i64 l[k].weight) := by simpa using h1
      have d0 : w.cell? ⟨b', off' + k * 2, none⟩ = some (.int .i64 m[k].back) := by simpa using h0'
      have d1 : w.cell? ⟨b', off' + k * 2 + 1, none⟩ = some (.int .i64 m[k].weight) := by simpa using h1'
      clear h0 h1 h0' h1'
      by_cases he : l[k].back = m[k].back
      · by_cases hf : l[k].weight = m[k].weight
        · have HE := Lib.hid (show l[k] = m[k] by cases hx : l[k]; cases hy : m[k]; rw [hx, hy] at he hf; simp at he hf; rw [he, hf])
          go_wp2_with fail
          go_region
          go_wp2_with fail
          go_roundw
          case rel => exact ⟨k + 1, n + 1, by omega, by go_num, Lib.hid (take_snoc_eq HT.out hlt hlt' HE.out), by simp⟩
          case measure => simp [intOf]; omega
        · have HF := Lib.hid (ne_of_get hlt hlt' (fun e => hf (by rw [e])))
          go_wp2_with fail
          go_region
          go_wp2_with fail
          go_ret
          exact ⟨by rw [decide_eq_false HF.out]; rfl, belowN (Below.refl _ _) _⟩
      · have HF := Lib.hid (ne_of_get hlt hlt' (fun e => he (by rw [e])))
        go_wp2_with fail
        go_region
        go_wp2_with fail
        go_ret
        exact ⟨by rw [decide_eq_false HF.out]; rfl, belowN (Below.refl _ _) _⟩
    · have : k = l.length := by omega
      subst this
      have HF := Lib.hid (show l = m by have := HT.out; rwa [List.take_length, h, List.take_length] at this)
      go_wp2_with fail
      go_ret
      exact ⟨by rw [decide_eq_true HF.out]; rfl, belowN (Below.refl _ _) _⟩
theorem eqM_nil (A A' : Option Addr) (c c' : Nat) (w : World) :
    Calls Tryz.prog 40 #[.slice A 0 c, .slice A' 0 c'] w fun e w' => e = .returned (.bool true) ∧ Below w.heap.size w w' := by
  go_enter Tryz.func40, Tryz.ntmps40
  go_wp2_with fail
  refine wp_loop_rounds 1 ?_; rw [rounds_succ]
  go_wp2_with fail
  go_ret
  exact ⟨rfl, Below.refl _ _⟩
theorem eqM_any (A A' : Option Addr) (c c' : Nat) (l m : List Mb) (w : World) (hm : l.length ≤ maxLen) (hl : ES w w.heap.size A 2 (l.map Mb.cs)) (hr : ES w w.heap.size A' 2 (m.map Mb.cs)) :
    Calls Tryz.prog 40 #[.slice A l.length c, .slice A' m.length c'] w fun e w' => e = .returned (.bool (decide (l = m))) ∧ Below w.heap.size w w' := by
  by_cases h : l.length = m.length
  · rcases hl with hl | ⟨b, off, hb, rfl, hl⟩
    · obtain rfl : l = [] := by simpa using hl
      obtain rfl : m = [] := List.eq_nil_of_length_eq_zero h.symm
      exact (eqM_nil A A' c c' w).mono fun e w' ⟨h1, h2⟩ => ⟨by rw [h1]; rfl, h2⟩
    · rcases hr with hr | ⟨b', off', hb', rfl, hr⟩
      · obtain rfl : m = [] := by simpa using hr
        obtain rfl : l = [] := List.eq_nil_of_length_eq_zero h
        exact (eqM_nil _ A' c c' w).mono fun e w' ⟨h1, h2⟩ => ⟨by rw [h1]; rfl, h2⟩
      · exact eqM_cells b off b' off' c c' l m w h hm hl hr hb hb'
  · refine (eqM_len A A' c c' l m w h).mono fun e w' ⟨h1, h2⟩ => ⟨by rw [h1, decide_eq_false]; exact fun e => h (by rw [e]), h2⟩
end Go.Proofs.YthfdhggcnkgjfaaGreatDoor
/- sameOp and Same, walked. -/
namespace Go.Proofs.YthfdhggcnkgjfaaGreatDoor
open Go.RowKit
set_option linter.unusedVariables false
theorem kept_of {w w1 w2 : World} (h1 : Below w.heap.size w w1) (h2 : Below w1.heap.size w1 w2) : Below w.heap.size w w2 := h1.trans (Kept.below (S := fun _ => False) (Kept.ofB h2) h1.size (fun i h => h.elim))
theorem bel_two {w : World} {a b : Obj} : Below w.heap.size w ((w.alloc a).alloc b) := ((Below.refl _ w).alloc (Nat.le_refl _) _).alloc (by simp) _
set_option maxRecDepth 10000 in
set_option maxHeartbeats 8000000 in
theorem sameOp_any (k0 k0z : Int) (k1 k1z : Int) (k2 k2z : Int) (k3 k3z : Int) (s sz : Bool) (h hz : Int) (l lz : Int) (p pz : Int) (q qz : Int) (y yz : Int) (MA MAz : Option Addr) (mc mcz : Nat) (ml mlz : List Mb) (w : World) (hm : ml.length ≤ maxLen) (hM : ES w w.heap.size MA 2 (ml.map Mb.cs)) (hMz : ES w w.heap.size MAz 2 (mlz.map Mb.cs)) :
    Calls Tryz.prog 20 #[.agg #[.int .i64 k0, .int .i64 k1, .int .i64 k2, .int .i64 k3, .bool s, .int .u64 h, .int .u64 l, .int .u16 p, .int .u8 q, .int .i64 y, .slice MA ml.length mc], .agg #[.int .i64 k0z, .int .i64 k1z, .int .i64 k2z, .int .i64 k3z, .bool sz, .int .u64 hz, .int .u64 lz, .int .u16 pz, .int .u8 qz, .int .i64 yz, .slice MAz mlz.length mcz]] w fun e w' => e = .returned (.bool (decide (k0 = k0z ∧ k1 = k1z ∧ k2 = k2z ∧ k3 = k3z ∧ s = sz ∧ h = hz ∧ l = lz ∧ p = pz ∧ q = qz ∧ y = yz ∧ ml = mlz))) ∧ Below w.heap.size w w' := by
  have HM := Lib.hid hm
  have HE := Lib.hid hM
  have HEz := Lib.hid hMz
  clear hm hM hMz
  go_enter Tryz.func20, Tryz.ntmps20
  go_upto_region 1 with fail
  obtain ⟨w1, hw1⟩ : ∃ w1 : World, w1 = (w.alloc (.cells #[.int .i64 k0, .int .i64 k1, .int .i64 k2, .int .i64 k3, .bool s, .int .u64 h, .int .u64 l, .int .u16 p, .int .u8 q, .int .i64 y, .slice MA ml.length mc] 29)).alloc (.cells #[.int .i64 k0z, .int .i64 k1z, .int .i64 k2z, .int .i64 k3z, .bool sz, .int .u64 hz, .int .u64 lz, .int .u16 pz, .int .u8 qz, .int .i64 yz, .slice MAz mlz.length mcz] 29) := ⟨_, rfl⟩
  have HX := Lib.hid (show Blk w1 w.heap.size 29 #[.int .i64 k0, .int .i64 k1, .int .i64 k2, .int .i64 k3, .bool s, .int .u64 h, .int .u64 l, .int .u16 p, .int .u8 q, .int .i64 y, .slice MA ml.length mc] by rw [hw1]; exact (Blk.new _ _ _).alloc _)
  have HY := Lib.hid (show Blk w1 (w.heap.size + 1) 29 #[.int .i64 k0z, .int .i64 k1z, .int .i64 k2z, .int .i64 k3z, .bool sz, .int .u64 hz, .int .u64 lz, .int .u16 pz, .int .u8 qz, .int .i64 yz, .slice MAz mlz.length mcz] by rw [hw1]; exact Blk.new_ (by simp) _ _)
  have HW := Lib.hid (show Below w.heap.size w w1 by rw [hw1]; exact bel_two)
  rw [← hw1]
  clear hw1
  obtain ⟨yb, hyb⟩ : ∃ yb, w.heap.size + 1 = yb := ⟨_, rfl⟩
  rw [hyb] at HY ⊢
  obtain ⟨xb, hxb⟩ : ∃ xb, w.heap.size = xb := ⟨_, rfl⟩
  have HXB := Lib.hid hxb
  rw [hxb] at HX ⊢
  clear hyb hxb
  have cx := HX.out.cell
  have cy := HY.out.cell
  rcases Classical.em (¬ k0 = k0z) with e0 | e0
  · go_wp2_with fail
    go_ret
    first | exact ⟨rfl, HW.out⟩ | exact ⟨congrArg (fun b => Ending.returned (Value.bool b)) (a₁ := false) (decide_eq_false (fun h => e0 h.1)).symm, HW.out⟩
  replace e0 := Classical.not_not.1 e0
  subst e0
  rcases Classical.em (¬ k1 = k1z) with e1 | e1
  · go_wp2_with fail
    go_ret
    first | exact ⟨rfl, HW.out⟩ | exact ⟨congrArg (fun b => Ending.returned (Value.bool b)) (a₁ := false) (decide_eq_false (fun h => e1 h.2.1)).symm, HW.out⟩
  replace e1 := Classical.not_not.1 e1
  subst e1
  rcases Classical.em (¬ k2 = k2z) with e2 | e2
  · go_wp2_with fail
    go_ret
    first | exact ⟨rfl, HW.out⟩ | exact ⟨congrArg (fun b => Ending.returned (Value.bool b)) (a₁ := false) (decide_eq_false (fun h => e2 h.2.2.1)).symm, HW.out⟩
  replace e2 := Classical.not_not.1 e2
  subst e2
  rcases Classical.em (¬ k3 = k3z) with e3 | e3
  · go_wp2_with fail
    go_ret
    first | exact ⟨rfl, HW.out⟩ | exact ⟨congrArg (fun b => Ending.returned (Value.bool b)) (a₁ := false) (decide_eq_false (fun h => e3 h.2.2.2.1)).symm, HW.out⟩
  replace e3 := Classical.not_not.1 e3
  subst e3
  rcases Classical.em (¬ s = sz) with e4 | e4
  · go_wp2_with fail
    go_ret
    first | exact ⟨rfl, HW.out⟩ | exact ⟨congrArg (fun b => Ending.returned (Value.bool b)) (a₁ := false) (decide_eq_false (fun h => e4 h.2.2.2.2.1)).symm, HW.out⟩
  replace e4 := Classical.not_not.1 e4
  subst e4
  rcases Classical.em (¬ h = hz) with e5 | e5
  · go_wp2_with fail
    go_ret
    first | exact ⟨rfl, HW.out⟩ | exact ⟨congrArg (fun b => Ending.returned (Value.bool b)) (a₁ := false) (decide_eq_false (fun h => e5 h.2.2.2.2.2.1)).symm, HW.out⟩
  replace e5 := Classical.not_not.1 e5
  subst e5
  rcases Classical.em (¬ l = lz) with e6 | e6
  · go_wp2_with fail
    go_ret
    first | exact ⟨rfl, HW.out⟩ | exact ⟨congrArg (fun b => Ending.returned (Value.bool b)) (a₁ := false) (decide_eq_false (fun h => e6 h.2.2.2.2.2.2.1)).symm, HW.out⟩
  replace e6 := Classical.not_not.1 e6
  subst e6
  rcases Classical.em (¬ p = pz) with e7 | e7
  · go_wp2_with fail
    go_ret
    first | exact ⟨rfl, HW.out⟩ | exact ⟨congrArg (fun b => Ending.returned (Value.bool b)) (a₁ := false) (decide_eq_false (fun h => e7 h.2.2.2.2.2.2.2.1)).symm, HW.out⟩
  replace e7 := Classical.not_not.1 e7
  subst e7
  rcases Classical.em (¬ q = qz) with e8 | e8
  · go_wp2_with fail
    go_ret
    first | exact ⟨rfl, HW.out⟩ | exact ⟨congrArg (fun b => Ending.returned (Value.bool b)) (a₁ := false) (decide_eq_false (fun h => e8 h.2.2.2.2.2.2.2.2.1)).symm, HW.out⟩
  replace e8 := Classical.not_not.1 e8
  subst e8
  rcases Classical.em (¬ y = yz) with e9 | e9
  · go_wp2_with fail
    go_ret
    first | exact ⟨rfl, HW.out⟩ | exact ⟨congrArg (fun b => Ending.returned (Value.bool b)) (a₁ := false) (decide_eq_false (fun h => e9 h.2.2.2.2.2.2.2.2.2.1)).symm, HW.out⟩
  replace e9 := Classical.not_not.1 e9
  subst e9
  go_wp2_with fail
  refine (eqM_any MA MAz mc mcz ml mlz w1 HM.out (HE.out.onB HW.out (Nat.le_refl _)) (HEz.out.onB HW.out (Nat.le_refl _))).mono ?_
  rintro e w2 ⟨rfl, hb2⟩
  have HW2 := Lib.hid (kept_of HW.out hb2)
  clear hb2
  go_wp2_with fail
  go_ret
  refine ⟨?_, HW2.out⟩
  by_cases hx : ml = mlz
  · simp [hx]
  · simp [hx]
end Go.Proofs.YthfdhggcnkgjfaaGreatDoor
/- Same, walked. -/
namespace Go.Proofs.YthfdhggcnkgjfaaGreatDoor
open Go.RowKit
set_option linter.unusedVariables false
set_option maxRecDepth 20000 in
set_option maxHeartbeats 16000000 in
theorem same_any (K Kz : Int) (k0 k0z : Int) (k1 k1z : Int) (k2 k2z : Int) (k3 k3z : Int) (s sz : Bool) (h hz : Int) (l lz : Int) (p pz : Int) (q qz : Int) (y yz : Int) (MA MAz : Option Addr) (mc mcz : Nat) (ml mlz : List Mb) (wh whz : Int) (tm tmz : Int) (fg fgz : Int) (LA LAz : Option Addr) (lc lcz : Nat) (ld ldz : List UInt8) (n nz : Int) (x xz : Int) (v vz : Int) (sa saz : Bool) (ha haz : Int) (la laz : Int) (pa paz : Int) (w : World) (hm : ml.length ≤ maxLen) (hM : ES w w.heap.size MA 2 (ml.map Mb.cs)) (hMz : ES w w.heap.size MAz 2 (mlz.map Mb.cs)) (hl : ld.length ≤ maxLen) (hL : BS w w.heap.size LA ld) (hLz : BS w w.heap.size LAz ldz) :
    Calls Tryz.prog 8 #[.agg #[.int .i64 K, .int .i64 k0, .int .i64 k1, .int .i64 k2, .int .i64 k3, .bool s, .int .u64 h, .int .u64 l, .int .u16 p, .int .u8 q, .int .i64 y, .slice MA ml.length mc, .int .i64 wh, .int .i64 tm, .int .u8 fg, .slice LA ld.length lc, .int .u32 n, .int .u32 x, .int .u32 v, .bool sa, .int .u64 ha, .int .u64 la, .int .u16 pa], .agg #[.int .i64 Kz, .int .i64 k0z, .int .i64 k1z, .int .i64 k2z, .int .i64 k3z, .bool sz, .int .u64 hz, .int .u64 lz, .int .u16 pz, .int .u8 qz, .int .i64 yz, .slice MAz mlz.length mcz, .int .i64 whz, .int .i64 tmz, .int .u8 fgz, .slice LAz ldz.length lcz, .int .u32 nz, .int .u32 xz, .int .u32 vz, .bool saz, .int .u64 haz, .int .u64 laz, .int .u16 paz]] w fun e w' => e = .returned (.bool (decide (K = Kz ∧ (k0 = k0z ∧ k1 = k1z ∧ k2 = k2z ∧ k3 = k3z ∧ s = sz ∧ h = hz ∧ l = lz ∧ p = pz ∧ q = qz ∧ y = yz ∧ ml = mlz) ∧ wh = whz ∧ tm = tmz ∧ fg = fgz ∧ ld = ldz ∧ n = nz ∧ x = xz ∧ v = vz ∧ sa = saz ∧ ha = haz ∧ la = laz ∧ pa = paz))) ∧ Below w.heap.size w w' := by
  obtain ⟨R, hR⟩ : ∃ R, R = decide (K = Kz ∧ (k0 = k0z ∧ k1 = k1z ∧ k2 = k2z ∧ k3 = k3z ∧ s = sz ∧ h = hz ∧ l = lz ∧ p = pz ∧ q = qz ∧ y = yz ∧ ml = mlz) ∧ wh = whz ∧ tm = tmz ∧ fg = fgz ∧ ld = ldz ∧ n = nz ∧ x = xz ∧ v = vz ∧ sa = saz ∧ ha = haz ∧ la = laz ∧ pa = paz) := ⟨_, rfl⟩
  rw [← hR]
  have HR := Lib.hid hR
  have HM := Lib.hid hm
  have HE := Lib.hid hM
  have HEz := Lib.hid hMz
  have HL := Lib.hid hl
  have HB := Lib.hid hL
  have HBz := Lib.hid hLz
  clear hm hM hMz hl hL hLz hR
  go_enter Tryz.func8, Tryz.ntmps8
  go_upto_region 1 with fail
  obtain ⟨w1, hw1⟩ : ∃ w1 : World, w1 = (w.alloc (.cells #[.int .i64 K, .int .i64 k0, .int .i64 k1, .int .i64 k2, .int .i64 k3, .bool s, .int .u64 h, .int .u64 l, .int .u16 p, .int .u8 q, .int .i64 y, .slice MA ml.length mc, .int .i64 wh, .int .i64 tm, .int .u8 fg, .slice LA ld.length lc, .int .u32 n, .int .u32 x, .int .u32 v, .bool sa, .int .u64 ha, .int .u64 la, .int .u16 pa] 33)).alloc (.cells #[.int .i64 Kz, .int .i64 k0z, .int .i64 k1z, .int .i64 k2z, .int .i64 k3z, .bool sz, .int .u64 hz, .int .u64 lz, .int .u16 pz, .int .u8 qz, .int .i64 yz, .slice MAz mlz.length mcz, .int .i64 whz, .int .i64 tmz, .int .u8 fgz, .slice LAz ldz.length lcz, .int .u32 nz, .int .u32 xz, .int .u32 vz, .bool saz, .int .u64 haz, .int .u64 laz, .int .u16 paz] 33) := ⟨_, rfl⟩
  have HX1 := Lib.hid (show Blk w1 w.heap.size 33 #[.int .i64 K, .int .i64 k0, .int .i64 k1, .int .i64 k2, .int .i64 k3, .bool s, .int .u64 h, .int .u64 l, .int .u16 p, .int .u8 q, .int .i64 y, .slice MA ml.length mc, .int .i64 wh, .int .i64 tm, .int .u8 fg, .slice LA ld.length lc, .int .u32 n, .int .u32 x, .int .u32 v, .bool sa, .int .u64 ha, .int .u64 la, .int .u16 pa] by rw [hw1]; exact (Blk.new _ _ _).alloc _)
  have HY1 := Lib.hid (show Blk w1 (w.heap.size + 1) 33 #[.int .i64 Kz, .int .i64 k0z, .int .i64 k1z, .int .i64 k2z, .int .i64 k3z, .bool sz, .int .u64 hz, .int .u64 lz, .int .u16 pz, .int .u8 qz, .int .i64 yz, .slice MAz mlz.length mcz, .int .i64 whz, .int .i64 tmz, .int .u8 fgz, .slice LAz ldz.length lcz, .int .u32 nz, .int .u32 xz, .int .u32 vz, .bool saz, .int .u64 haz, .int .u64 laz, .int .u16 paz] by rw [hw1]; exact Blk.new_ (by simp) _ _)
  have HW := Lib.hid (show Below w.heap.size w w1 by rw [hw1]; exact bel_two)
  rw [← hw1]
  clear hw1
  obtain ⟨yb, hyb⟩ : ∃ yb, w.heap.size + 1 = yb := ⟨_, rfl⟩
  rw [hyb] at HY1 ⊢
  obtain ⟨xb, hxb⟩ : ∃ xb, w.heap.size = xb := ⟨_, rfl⟩
  have HXB := Lib.hid hxb
  rw [hxb] at HX1 ⊢
  clear hyb hxb
  have cx := HX1.out.cell
  have cy := HY1.out.cell
  rcases Classical.em (¬ K = Kz) with e0 | e0
  · have hz := HR.out.trans (decide_eq_false (fun h => e0 h.1))
    subst hz
    go_wp2_with fail
    go_ret
    first | exact ⟨rfl, HW.out⟩ | exact ⟨congrArg (fun b => Ending.returned (Value.bool b)) (a₁ := (K == Kz)) (by simpa using e0), HW.out⟩
  replace e0 := Classical.not_not.1 e0
  subst e0
  go_wp2_with fail
  refine (sameOp_any k0 k0z k1 k1z k2 k2z k3 k3z s sz h hz l lz p pz q qz y yz MA MAz mc mcz ml mlz w1 HM.out (HE.out.onB HW.out (Nat.le_refl _)) (HEz.out.onB HW.out (Nat.le_refl _))).mono ?_
  rintro e w2 ⟨rfl, hb2⟩
  have HW2 := Lib.hid (kept_of HW.out hb2)
  have HX2 := Lib.hid (HX1.out.below hb2 HX1.out.lt)
  have HY2 := Lib.hid (HY1.out.below hb2 HY1.out.lt)
  clear hb2 cx cy HX1 HY1
  have cx := HX2.out.cell
  have cy := HY2.out.cell
  obtain ⟨o1, ho1⟩ : ∃ o1, decide (k0 = k0z ∧ k1 = k1z ∧ k2 = k2z ∧ k3 = k3z ∧ s = sz ∧ h = hz ∧ l = lz ∧ p = pz ∧ q = qz ∧ y = yz ∧ ml = mlz) = o1 := ⟨_, rfl⟩
  rw [ho1]
  cases o1 with
  | false =>
    have hz := HR.out.trans (decide_eq_false (fun h => of_decide_eq_false ho1 h.2.1))
    clear ho1
    subst hz
    go_wp2_with fail
    go_ret
    exact ⟨rfl, HW2.out⟩
  | true =>
  have Ho1 := Lib.hid (of_decide_eq_true ho1)
  clear ho1
  rcases Classical.em (¬ wh = whz) with e2 | e2
  · have hz := HR.out.trans (decide_eq_false (fun h => e2 h.2.2.1))
    subst hz
    go_wp2_with fail
    go_ret
    first | exact ⟨rfl, HW2.out⟩ | exact ⟨congrArg (fun b => Ending.returned (Value.bool b)) (a₁ := (wh == whz)) (by simpa using e2), HW2.out⟩
  replace e2 := Classical.not_not.1 e2
  subst e2
  rcases Classical.em (¬ tm = tmz) with e3 | e3
  · have hz := HR.out.trans (decide_eq_false (fun h => e3 h.2.2.2.1))
    subst hz
    go_wp2_with fail
    go_ret
    first | exact ⟨rfl, HW2.out⟩ | exact ⟨congrArg (fun b => Ending.returned (Value.bool b)) (a₁ := (tm == tmz)) (by simpa using e3), HW2.out⟩
  replace e3 := Classical.not_not.1 e3
  subst e3
  rcases Classical.em (¬ fg = fgz) with e4 | e4
  · have hz := HR.out.trans (decide_eq_false (fun h => e4 h.2.2.2.2.1))
    subst hz
    go_wp2_with fail
    go_ret
    first | exact ⟨rfl, HW2.out⟩ | exact ⟨congrArg (fun b => Ending.returned (Value.bool b)) (a₁ := (fg == fgz)) (by simpa using e4), HW2.out⟩
  replace e4 := Classical.not_not.1 e4
  subst e4
  go_wp2_with fail
  refine (eqB_any LA LAz lc lcz ld ldz w2 HL.out (HB.out.onB HW2.out (Nat.le_refl _)) (HBz.out.onB HW2.out (Nat.le_refl _))).mono ?_
  rintro e w3 ⟨rfl, hb3⟩
  have HW3 := Lib.hid (kept_of HW2.out hb3)
  have HX3 := Lib.hid (HX2.out.below hb3 HX2.out.lt)
  have HY3 := Lib.hid (HY2.out.below hb3 HY2.out.lt)
  clear hb3 cx cy HX2 HY2
  have cx := HX3.out.cell
  have cy := HY3.out.cell
  obtain ⟨o2, ho2⟩ : ∃ o2, decide (ld = ldz) = o2 := ⟨_, rfl⟩
  rw [ho2]
  cases o2 with
  | false =>
    have hz := HR.out.trans (decide_eq_false (fun h => of_decide_eq_false ho2 h.2.2.2.2.2.1))
    clear ho2
    subst hz
    go_wp2_with fail
    go_ret
    exact ⟨rfl, HW3.out⟩
  | true =>
  have Ho2 := Lib.hid (of_decide_eq_true ho2)
  clear ho2
  rcases Classical.em (¬ n = nz) with e6 | e6
  · have hz := HR.out.trans (decide_eq_false (fun h => e6 h.2.2.2.2.2.2.1))
    subst hz
    go_wp2_with fail
    go_ret
    first | exact ⟨rfl, HW3.out⟩ | exact ⟨congrArg (fun b => Ending.returned (Value.bool b)) (a₁ := (n == nz)) (by simpa using e6), HW3.out⟩
  replace e6 := Classical.not_not.1 e6
  subst e6
  rcases Classical.em (¬ x = xz) with e7 | e7
  · have hz := HR.out.trans (decide_eq_false (fun h => e7 h.2.2.2.2.2.2.2.1))
    subst hz
    go_wp2_with fail
    go_ret
    first | exact ⟨rfl, HW3.out⟩ | exact ⟨congrArg (fun b => Ending.returned (Value.bool b)) (a₁ := (x == xz)) (by simpa using e7), HW3.out⟩
  replace e7 := Classical.not_not.1 e7
  subst e7
  rcases Classical.em (¬ v = vz) with e8 | e8
  · have hz := HR.out.trans (decide_eq_false (fun h => e8 h.2.2.2.2.2.2.2.2.1))
    subst hz
    go_wp2_with fail
    go_ret
    first | exact ⟨rfl, HW3.out⟩ | exact ⟨congrArg (fun b => Ending.returned (Value.bool b)) (a₁ := (v == vz)) (by simpa using e8), HW3.out⟩
  replace e8 := Classical.not_not.1 e8
  subst e8
  rcases Classical.em (¬ sa = saz) with e9 | e9
  · have hz := HR.out.trans (decide_eq_false (fun h => e9 h.2.2.2.2.2.2.2.2.2.1))
    subst hz
    go_wp2_with fail
    go_ret
    first | exact ⟨rfl, HW3.out⟩ | exact ⟨congrArg (fun b => Ending.returned (Value.bool b)) (a₁ := (sa == saz)) (by simpa using e9), HW3.out⟩
  replace e9 := Classical.not_not.1 e9
  subst e9
  rcases Classical.em (¬ ha = haz) with e10 | e10
  · have hz := HR.out.trans (decide_eq_false (fun h => e10 h.2.2.2.2.2.2.2.2.2.2.1))
    subst hz
    go_wp2_with fail
    go_ret
    first | exact ⟨rfl, HW3.out⟩ | exact ⟨congrArg (fun b => Ending.returned (Value.bool b)) (a₁ := (ha == haz)) (by simpa using e10), HW3.out⟩
  replace e10 := Classical.not_not.1 e10
  subst e10
  rcases Classical.em (¬ la = laz) with e11 | e11
  · have hz := HR.out.trans (decide_eq_false (fun h => e11 h.2.2.2.2.2.2.2.2.2.2.2.1))
    subst hz
    go_wp2_with fail
    go_ret
    first | exact ⟨rfl, HW3.out⟩ | exact ⟨congrArg (fun b => Ending.returned (Value.bool b)) (a₁ := (la == laz)) (by simpa using e11), HW3.out⟩
  replace e11 := Classical.not_not.1 e11
  subst e11
  rcases Classical.em (¬ pa = paz) with e12 | e12
  · have hz := HR.out.trans (decide_eq_false (fun h => e12 h.2.2.2.2.2.2.2.2.2.2.2.2))
    subst hz
    go_wp2_with fail
    go_ret
    first | exact ⟨rfl, HW3.out⟩ | exact ⟨congrArg (fun b => Ending.returned (Value.bool b)) (a₁ := (pa == paz)) (by simpa using e12), HW3.out⟩
  replace e12 := Classical.not_not.1 e12
  subst e12
  have hz := HR.out.trans (decide_eq_true (by refine ⟨?_, Ho1.out, ?_, ?_, ?_, Ho2.out, ?_, ?_, ?_, ?_, ?_, ?_, ?_⟩ <;> first | rfl | trivial))
  subst hz
  go_wp2_with fail
  go_ret
  exact ⟨rfl, HW3.out⟩
end Go.Proofs.YthfdhggcnkgjfaaGreatDoor
/- op copies an operation. -/
namespace Go.Proofs.YthfdhggcnkgjfaaGreatDoor
open Go.RowKit
set_option linter.unusedVariables false
theorem Tryz.infoM : (Tryz.prog.info? 89).map (fun i => (i.zero, i.size, i.bytes)) = some (some (.agg #[.int .i64 0, .int .i64 0]), 2, 16) := by kernel_rfl
/-- Members in memory, as a value. -/
def MemV (w : World) (B : Nat) (v : Value) (ml : List Mb) : Prop := ∃ A c, v = .slice A ml.length c ∧ (ml.length ≤ c ∧ c ≤ maxLen ∧ ES w w.heap.size A 2 (ml.map Mb.cs)) ∧ ∀ p, A = some p → B ≤ p.block
set_option maxRecDepth 20000 in
set_option maxHeartbeats 8000000 in
theorem op_any (k0 : Int) (k1 : Int) (k2 : Int) (k3 : Int) (s : Bool) (h : Int) (l : Int) (p : Int) (q : Int) (y : Int) (A : Option Addr) (c : Nat) (ml : List Mb) (w : World) (hl : ml.length ≤ 70) (he : ES w w.heap.size A 2 (ml.map Mb.cs)) :
    Calls Tryz.prog 22 #[.agg #[.int .i64 k0, .int .i64 k1, .int .i64 k2, .int .i64 k3, .bool s, .int .u64 h, .int .u64 l, .int .u16 p, .int .u8 q, .int .i64 y, .slice A ml.length c]] w fun e w' => (∃ v, e = .returned (.agg #[.int .i64 k0, .int .i64 k1, .int .i64 k2, .int .i64 k3, .bool s, .int .u64 h, .int .u64 l, .int .u16 p, .int .u8 q, .int .i64 y, v]) ∧ MemV w' w.heap.size v ml) ∧ Below w.heap.size w w' := by
  have HC := Lib.hid he
  clear he
  go_enter Tryz.func22, Tryz.ntmps22
  go_upto_region 2 with fail
  obtain ⟨w1, hw1⟩ : ∃ w1 : World, w1 = ((w.alloc (.cells #[.int .i64 k0, .int .i64 k1, .int .i64 k2, .int .i64 k3, .bool s, .int .u64 h, .int .u64 l, .int .u16 p, .int .u8 q, .int .i64 y, .slice A ml.length c] 39)).alloc (.cells #[.int .i64 0, .int .i64 0, .int .i64 0, .int .i64 0, .bool false, .int .u64 0, .int .u64 0, .int .u16 0, .int .u8 0, .int .i64 0, .slice none 0 0] 29)).alloc (.cells #[.int .i64 k0, .int .i64 k1, .int .i64 k2, .int .i64 k3, .bool s, .int .u64 h, .int .u64 l, .int .u16 p, .int .u8 q, .int .i64 y, .slice none 0 0] 29) := ⟨_, rfl⟩
  have HX0 := Lib.hid (show Blk w1 w.heap.size 39 #[.int .i64 k0, .int .i64 k1, .int .i64 k2, .int .i64 k3, .bool s, .int .u64 h, .int .u64 l, .int .u16 p, .int .u8 q, .int .i64 y, .slice A ml.length c] by rw [hw1]; exact ((Blk.new _ _ _).alloc _).alloc _)
  have HR0 := Lib.hid (show Blk w1 (w.heap.size + 1) 29 #[.int .i64 0, .int .i64 0, .int .i64 0, .int .i64 0, .bool false, .int .u64 0, .int .u64 0, .int .u16 0, .int .u8 0, .int .i64 0, .slice none 0 0] by rw [hw1]; exact (Blk.new_ (by simp) _ _).alloc _)
  have HO0 := Lib.hid (show Blk w1 (w.heap.size + 1 + 1) 29 #[.int .i64 k0, .int .i64 k1, .int .i64 k2, .int .i64 k3, .bool s, .int .u64 h, .int .u64 l, .int .u16 p, .int .u8 q, .int .i64 y, .slice none 0 0] by rw [hw1]; exact Blk.new_ (by simp) _ _)
  have HW0 := Lib.hid (show Below w.heap.size w w1 by rw [hw1]; exact (((Below.refl _ w).alloc (Nat.le_refl _) _).alloc (by simp) _).alloc (by simp; omega) _)
  rw [← hw1]
  have hsz1 : w1.heap.size = w.heap.size + 3 := by rw [hw1]; simp
  have HSZ := Lib.hid hsz1
  clear hw1 hsz1
  obtain ⟨base, hbase⟩ : ∃ base, base = w1.heap.size := ⟨_, rfl⟩
  have HBASE := Lib.hid hbase
  clear hbase
  obtain ⟨ob, hob⟩ : ∃ ob, w.heap.size + 1 + 1 = ob := ⟨_, rfl⟩
  rw [hob] at HO0 ⊢
  obtain ⟨rb, hrb⟩ : ∃ rb, w.heap.size + 1 = rb := ⟨_, rfl⟩
  rw [hrb] at HR0 ⊢
  obtain ⟨xb, hxb⟩ : ∃ xb, w.heap.size = xb := ⟨_, rfl⟩
  have HXB := Lib.hid hxb
  have HOB := Lib.hid (show ob = xb + 2 by omega)
  have HRB := Lib.hid (show rb = xb + 1 by omega)
  rw [hxb] at HX0 ⊢
  clear hob hrb hxb
  go_wp2_with fail
  go_loopw [4] (fun i wr => ∃ (k : Nat) (v : Value), k ≤ ml.length ∧ i = .int .i64 k ∧ Hid (Blk wr ob 29 #[.int .i64 k0, .int .i64 k1, .int .i64 k2, .int .i64 k3, .bool s, .int .u64 h, .int .u64 l, .int .u16 p, .int .u8 q, .int .i64 y, v]) ∧ Hid (Blk wr xb 39 #[.int .i64 k0, .int .i64 k1, .int .i64 k2, .int .i64 k3, .bool s, .int .u64 h, .int .u64 l, .int .u16 p, .int .u8 q, .int .i64 y, .slice A ml.length c]) ∧ Hid (Blk wr rb 29 #[.int .i64 0, .int .i64 0, .int .i64 0, .int .i64 0, .bool false, .int .u64 0, .int .u64 0, .int .u16 0, .int .u8 0, .int .i64 0, .slice none 0 0]) ∧ Hid (RowN wr base 89 2 v ((ml.take k).map Mb.cs)) ∧ Hid (Below w.heap.size w wr)) (fun i _ => ml.length - (intOf i).toNat)
  case atStart => exact ⟨0, _, Nat.zero_le _, rfl, HO0, HX0, HR0, Lib.hid (by simpa using RowN.nil _ _ _ _), HW0⟩
  case round =>
    obtain ⟨k, v, hk, rfl, HO, HX, HRR, HRV0, HW⟩ := hrel
    obtain ⟨VA, vc, hve, -, -⟩ := HRV0.out.shape
    rw [show ((ml.take k).map Mb.cs).length = k by simp; omega] at hve
    subst hve
    have HRV := HRV0
    clear HRV0
    by_cases hlt : k < ml.length
    · have hk0 : (0 : Int) ≤ (k : Int) := Int.natCast_nonneg _
      have hk1 : (k : Int) < (ml.length : Int) := by omega
      obtain ⟨b, off, hb, rfl, HB⟩ := HC.out.at (k := k) (by simpa using hlt)
      have HB := Lib.hid HB
      have hbx : b < xb := by have := HXB.out; omega
      clear hb
      have cx10 := HX.out.cell 10
      have co10 := HO.out.cell 10
      simp at cx10 co10
      have hbw : base ≤ wr.heap.size := by have := HO.out.lt; have := HOB.out; have := HXB.out; have := HBASE.out; have := HSZ.out; omega
      have xlt := HX.out.lt
      have olt := HO.out.lt
      have blt : b < wr.heap.size := by omega
      have HE := Lib.hid (Mb.get (HB.out.keep (fun o => HW.out.cell (p := ⟨b, o, none⟩) (show b < w.heap.size by have := HXB.out; omega))) hlt)
      obtain ⟨e0, e1⟩ := HE.out
      have HSL := Lib.hid (fun i (h : (Value.slice VA k vc).ownBlock = some i) => (show i < wr.heap.size from (HRV.out.lt i h).2))
      have HSO := Lib.hid (show ¬ (Value.slice VA k vc).ownBlock = some ob from HRV.out.ne HO.out (by decide))
      have HSX := Lib.hid (show ¬ (Value.slice VA k vc).ownBlock = some xb from HRV.out.ne HX.out (by decide))
      have HSR := Lib.hid (show ¬ (Value.slice VA k vc).ownBlock = some rb from HRV.out.ne HRR.out (by decide))
      have HSB := Lib.hid (show ¬ (Value.slice VA k vc).ownBlock = some b from fun e => by have := (HRV.out.lt b e).1; have := HBASE.out; have := HSZ.out; have := HXB.out; omega)
      have HEX := Lib.hid (show ∃ v u, Kept (fun i => (Value.slice VA k vc).ownBlock = some i) wr u ∧ RowN u base 89 2 v ((ml.take (k + 1)).map Mb.cs) from
        ⟨_, _, (Kept.refl _ _).alloc (.cells (((ml.take (k + 1)).map Mb.cs)).flatten.toArray 89), RowN.of_blk (n := k + 1) (Blk.new _ _ _) (by have := HO.out.lt; have := HOB.out; have := HXB.out; have := HBASE.out; have := HSZ.out; omega) (by unfold maxLen; omega) (sz_map Mb.cs_len _) (by simp) (by simp; omega)⟩)
      go_wp2_with fail
      refine wp_region_add 17 (fun i => (Value.slice VA k vc).ownBlock = some i) [16] [] [(15, fun v u => ∃ g, v = .slice (some ⟨g, 0, none⟩) 1 1 ∧ wr.heap.size ≤ g ∧ Blk u g 89 #[.int .i64 ml[k].back, .int .i64 ml[k].weight]), (16, fun v u => RowN u base 89 2 v ((ml.take (k + 1)).map Mb.cs))] ?st ?ne rfl (by kernel_rfl) (by kernel_rfl) (by kernel_rfl) ?_
      case st =>
        intro p hp
        simp only [List.mem_cons, List.not_mem_nil, or_false] at hp
        rcases hp with rfl | rfl
        · rintro v u u' ⟨g, rfl, h1, h⟩ hk; exact ⟨g, rfl, h1, h.kept hk (fun e => by have := HSL.out _ e; omega)⟩
        · intro v u u' h hk; exact h.kept hk (fun _ _ h => h)
      case ne =>
        intro p hp
        simp only [List.mem_cons, List.not_mem_nil, or_false] at hp
        rcases hp with rfl | rfl
        · exact ⟨_, _, (Kept.refl _ _).alloc _, _, rfl, Nat.le_refl _, Blk.new _ _ _⟩
        · exact HEX.out
      simp only [List.take_succ_cons, List.take_zero, List.drop_succ_cons, List.drop_zero]
      intro G pick hR hp1 hp2
      have px : ∀ u, (pick u).cell? ⟨xb, 10, none⟩ = some (.slice (some ⟨b, off, none⟩) ml.length c) := fun u => ((hp1 u).cell xlt HSX.out _).trans cx10
      have po : ∀ u, (pick u).cell? ⟨ob, 10, none⟩ = some (.slice VA k vc) := fun u => ((hp1 u).cell olt HSO.out _).trans co10
      have p0 : ∀ u, (pick u).cell? ⟨b, off + k * 2, none⟩ = some (.int .i64 ml[k].back) := fun u => ((hp1 u).cell blt HSB.out _).trans e0
      have p1 : ∀ u, (pick u).cell? ⟨b, off + k * 2 + 1, none⟩ = some (.int .i64 ml[k].weight) := fun u => ((hp1 u).cell blt HSB.out _).trans e1
      repeat (first | (refine wpR_det hp2 rfl ((hR.rel _).trans rfl) rfl ?_; intro K hK; go_big_quiet_op; go_big_quiet_on) | (refine wpR_ptr hp2 rfl ((hR.rel _).trans rfl) rfl rfl ?_; intro K hK; go_big_quiet_op; go_big_quiet_on) | (refine wpR_skip pick rfl ?_; intro K hK; go_big_quiet_op; go_big_quiet_on))
      refine wpR_rel pick rfl ((hR.rel _).trans rfl) ((hR.turns _).trans rfl) ?_ ?_
      · intro u hu
        have hk := hR.since hu.1
        have hks := hk.size
        unfold relAt
        go_simp
        exact ⟨hR.into0 ((Kept.refl _ _).alloc _), hR.put 0 rfl rfl ⟨_, rfl, hks, Blk.new _ _ _⟩⟩
      intro v hv
      obtain ⟨u, _, hu⟩ := hv
      obtain ⟨g6, rfl, hg6, -⟩ := hR.get 0 rfl hu
      clear hu
      intro K hK
      go_big_quiet_op
      go_big_quiet_on
      repeat (first | (refine wpR_det hp2 rfl ((hR.rel _).trans rfl) rfl ?_; intro K hK; go_big_quiet_op; go_big_quiet_on) | (refine wpR_ptr hp2 rfl ((hR.rel _).trans rfl) rfl rfl ?_; intro K hK; go_big_quiet_op; go_big_quiet_on) | (refine wpR_skip pick rfl ?_; intro K hK; go_big_quiet_op; go_big_quiet_on))
      refine wpR_turn pick rfl ((hR.rel _).trans rfl) ((hR.turns _).trans rfl) ((hR.adds _).trans rfl) ?_ ?_
      · intro u hu hM
        have hk := hR.since hu.1
        have hks := hk.size
        obtain ⟨g', e, -, hB6⟩ := (hR.get 0 rfl (hu.2 _ _ (Got.upd_self _ _ _) (by kernel_rfl)))
        obtain rfl : g6 = g' := by injection e with e; injection e with e; injection e
        have hK0 := hR.first hM
        have hR0 := HRV.out.kept hK0 (fun _ _ h => h)
        refine relAt_append_rowN (.tmp 30) (.tmp 44) 27 rfl base 89 _ 2 16 Tryz.underlying27 Tryz.infoM rfl (by decide) _ ((ml.take k).map Mb.cs) rfl (some ⟨g6, 0, none⟩) 1 1 [[.int .i64 ml[k].back, .int .i64 ml[k].weight]] rfl rfl hR0 (by simp) (Src.blk hB6 rfl) (by intro u hu; simp at hu; rcases hu with rfl | rfl <;> rfl) ?_ ?_ ?_ ?_
        · unfold maxLen; simp; omega
        · simp; omega
        · omega
        · intro v' w' h1 h2 h3
          exact ⟨hR.into (kept_grown h2 (fun i e _ => e)), hR.put 1 rfl rfl (by rw [List.take_succ_eq_append_getElem hlt, List.map_append]; exact h1)⟩
      intro v hv
      obtain ⟨u, _, hu⟩ := hv
      obtain hT7 := hR.get 1 rfl hu
      clear hu
      obtain ⟨VB, vd, hve, -, -⟩ := hT7.shape
      subst hve
      clear hT7
      intro K hK
      go_big_quiet_op
      go_big_quiet_on
      repeat (first | (refine wpR_det hp2 rfl ((hR.rel _).trans rfl) rfl ?_; intro K hK; go_big_quiet_op; go_big_quiet_on) | (refine wpR_ptr hp2 rfl ((hR.rel _).trans rfl) rfl rfl ?_; intro K hK; go_big_quiet_op; go_big_quiet_on) | (refine wpR_skip pick rfl ?_; intro K hK; go_big_quiet_op; go_big_quiet_on))
      refine wpR_nil ?_
      intro w5 hk2 hF hM
      have HT5 := Lib.hid (hR.get 1 rfl hM)
      have HK5 := Lib.hid hk2
      have HO5 := Lib.hid (HO.out.kept hk2 HSO.out)
      have HX5 := Lib.hid (HX.out.kept hk2 HSX.out)
      have HR5 := Lib.hid (HRR.out.kept hk2 HSR.out)
      have HW5 := Lib.hid (show Below w.heap.size w w5 from HW.out.trans (hk2.below HW.out.size (fun i hi => by have := (HRV.out.lt i hi).1; have := HBASE.out; have := HSZ.out; omega)))
      clear hF hM hk2 hp1 hp2 hR px po p0 p1 e0 e1 cx10 co10 HEX xlt olt blt
      have c5 := HO5.out.cell
      have f5 := HO5.out.frozen
      have l5 := HO5.out.lt
      go_wp2_with fail
      go_roundw
      case rel =>
        refine ⟨k + 1, _, by omega, by go_num, Lib.hid (HO5.out.set_to (by simp)), Lib.hid (HX5.out.far (p := ⟨ob, 10, none⟩) (by have := HOB.out; simp; omega) _), Lib.hid (HR5.out.far (p := ⟨ob, 10, none⟩) (by have := HOB.out; have := HRB.out; simp; omega) _), Lib.hid (HT5.out.far (HT5.out.ne HO5.out (by decide))), Lib.hid (HW5.out.setCell (p := ⟨ob, 10, none⟩) (by have := HOB.out; have := HXB.out; simp; omega) _)⟩
      case measure => simp [intOf]; omega
    · have : k = ml.length := by omega
      subst this
      have cx10 := HX.out.cell 10
      simp at cx10
      have xlt := HX.out.lt
      have cO := HO.out.cell
      have fO := HO.out.frozen
      have cR := HRR.out.cell
      have fR := HRR.out.frozen
      have oL := HO.out.lt
      have rL := HRR.out.lt
      go_wp2_with fail
      generalize hw9 : (World.setCell _ _ _) = w9
      have HK9 := Lib.hid (show Kept (fun i => i = rb) wr w9 by
        rw [← hw9]
        have q0 := Kept.refl (fun i => i = rb) wr
        have q1 := Kept.setIn (S := fun i => i = rb) (b := rb) (o := 0) (s := none) (u := .int .i64 k0) rfl q0
        have q2 := Kept.setIn (S := fun i => i = rb) (b := rb) (o := 1) (s := none) (u := .int .i64 k1) rfl q1
        have q3 := Kept.setIn (S := fun i => i = rb) (b := rb) (o := 2) (s := none) (u := .int .i64 k2) rfl q2
        have q4 := Kept.setIn (S := fun i => i = rb) (b := rb) (o := 3) (s := none) (u := .int .i64 k3) rfl q3
        have q5 := Kept.setIn (S := fun i => i = rb) (b := rb) (o := 4) (s := none) (u := .bool s) rfl q4
        have q6 := Kept.setIn (S := fun i => i = rb) (b := rb) (o := 5) (s := none) (u := .int .u64 h) rfl q5
        have q7 := Kept.setIn (S := fun i => i = rb) (b := rb) (o := 6) (s := none) (u := .int .u64 l) rfl q6
        have q8 := Kept.setIn (S := fun i => i = rb) (b := rb) (o := 7) (s := none) (u := .int .u16 p) rfl q7
        have q9 := Kept.setIn (S := fun i => i = rb) (b := rb) (o := 8) (s := none) (u := .int .u8 q) rfl q8
        have q10 := Kept.setIn (S := fun i => i = rb) (b := rb) (o := 9) (s := none) (u := .int .i64 y) rfl q9
        have q11 := Kept.setIn (S := fun i => i = rb) (b := rb) (o := 10) (s := none) (u := .slice VA ml.length vc) rfl q10
        exact q11)
      have HR9 := Lib.hid (show Blk w9 rb 29 #[.int .i64 k0, .int .i64 k1, .int .i64 k2, .int .i64 k3, .bool s, .int .u64 h, .int .u64 l, .int .u16 p, .int .u8 q, .int .i64 y, .slice VA ml.length vc] by
        rw [← hw9]
        have q0 := HRR.out
        have q1 := Blk.set_to (i := 0) (u := .int .i64 k0) (cs' := #[.int .i64 k0, .int .i64 0, .int .i64 0, .int .i64 0, .bool false, .int .u64 0, .int .u64 0, .int .u16 0, .int .u8 0, .int .i64 0, .slice none 0 0]) q0 rfl
        have q2 := Blk.set_to (i := 1) (u := .int .i64 k1) (cs' := #[.int .i64 k0, .int .i64 k1, .int .i64 0, .int .i64 0, .bool false, .int .u64 0, .int .u64 0, .int .u16 0, .int .u8 0, .int .i64 0, .slice none 0 0]) q1 rfl
        have q3 := Blk.set_to (i := 2) (u := .int .i64 k2) (cs' := #[.int .i64 k0, .int .i64 k1, .int .i64 k2, .int .i64 0, .bool false, .int .u64 0, .int .u64 0, .int .u16 0, .int .u8 0, .int .i64 0, .slice none 0 0]) q2 rfl
        have q4 := Blk.set_to (i := 3) (u := .int .i64 k3) (cs' := #[.int .i64 k0, .int .i64 k1, .int .i64 k2, .int .i64 k3, .bool false, .int .u64 0, .int .u64 0, .int .u16 0, .int .u8 0, .int .i64 0, .slice none 0 0]) q3 rfl
        have q5 := Blk.set_to (i := 4) (u := .bool s) (cs' := #[.int .i64 k0, .int .i64 k1, .int .i64 k2, .int .i64 k3, .bool s, .int .u64 0, .int .u64 0, .int .u16 0, .int .u8 0, .int .i64 0, .slice none 0 0]) q4 rfl
        have q6 := Blk.set_to (i := 5) (u := .int .u64 h) (cs' := #[.int .i64 k0, .int .i64 k1, .int .i64 k2, .int .i64 k3, .bool s, .int .u64 h, .int .u64 0, .int .u16 0, .int .u8 0, .int .i64 0, .slice none 0 0]) q5 rfl
        have q7 := Blk.set_to (i := 6) (u := .int .u64 l) (cs' := #[.int .i64 k0, .int .i64 k1, .int .i64 k2, .int .i64 k3, .bool s, .int .u64 h, .int .u64 l, .int .u16 0, .int .u8 0, .int .i64 0, .slice none 0 0]) q6 rfl
        have q8 := Blk.set_to (i := 7) (u := .int .u16 p) (cs' := #[.int .i64 k0, .int .i64 k1, .int .i64 k2, .int .i64 k3, .bool s, .int .u64 h, .int .u64 l, .int .u16 p, .int .u8 0, .int .i64 0, .slice none 0 0]) q7 rfl
        have q9 := Blk.set_to (i := 8) (u := .int .u8 q) (cs' := #[.int .i64 k0, .int .i64 k1, .int .i64 k2, .int .i64 k3, .bool s, .int .u64 h, .int .u64 l, .int .u16 p, .int .u8 q, .int .i64 0, .slice none 0 0]) q8 rfl
        have q10 := Blk.set_to (i := 9) (u := .int .i64 y) (cs' := #[.int .i64 k0, .int .i64 k1, .int .i64 k2, .int .i64 k3, .bool s, .int .u64 h, .int .u64 l, .int .u16 p, .int .u8 q, .int .i64 y, .slice none 0 0]) q9 rfl
        have q11 := Blk.set_to (i := 10) (u := .slice VA ml.length vc) (cs' := #[.int .i64 k0, .int .i64 k1, .int .i64 k2, .int .i64 k3, .bool s, .int .u64 h, .int .u64 l, .int .u16 p, .int .u8 q, .int .i64 y, .slice VA ml.length vc]) q10 rfl
        exact q11)
      clear hw9
      refine bodyPost_ret (results_blk1 (P := Tryz.prog) (show Tryz.f22.results = _ from rfl) _ _ rb 29 #[.int .i64 k0, .int .i64 k1, .int .i64 k2, .int .i64 k3, .bool s, .int .u64 h, .int .u64 l, .int .u16 p, .int .u8 q, .int .i64 y, .slice VA ml.length vc] _ rfl HR9.out Tryz.underlying29 rfl (by kernel_rfl)) rfl ⟨⟨_, rfl, ?_⟩, ?_⟩
      · have hrow := HRV.out.kept HK9.out (fun g hg e => by subst e; exact HRV.out.ne HRR.out (by decide) hg)
        obtain ⟨A', c', h1, h2, h3, h4⟩ := hrow.es
        rw [List.take_length] at h1 h2 h4
        rw [List.length_map] at h1 h2
        have hlt := hrow.lt
        rw [h1] at hlt ⊢
        refine ⟨A', c', rfl, ⟨h2, h3, h4⟩, fun p e => ?_⟩
        subst e
        have := (hlt p.block rfl).1
        have := HBASE.out
        have := HSZ.out
        omega
      · exact HW.out.trans (HK9.out.below HW.out.size (fun i e => by have := HRB.out; have := HXB.out; omega))
end Go.Proofs.YthfdhggcnkgjfaaGreatDoor
/- To copies a step. -/
namespace Go.Proofs.YthfdhggcnkgjfaaGreatDoor
open Go.RowKit
set_option linter.unusedVariables false
def MOk (w : World) (A : Option Addr) (c : Nat) (ml : List Mb) : Prop := ml.length ≤ c ∧ c ≤ maxLen ∧ ES w w.heap.size A 2 (ml.map Mb.cs)
set_option maxRecDepth 20000 in
set_option maxHeartbeats 8000000 in
theorem to_any (K : Int) (k0 : Int) (k1 : Int) (k2 : Int) (k3 : Int) (s : Bool) (h : Int) (l : Int) (p : Int) (q : Int) (y : Int) (MA : Option Addr) (mc : Nat) (ml : List Mb) (wh : Int) (tm : Int) (fg : Int) (LA : Option Addr) (lc : Nat) (ld : List UInt8) (n : Int) (x : Int) (v : Int) (sa : Bool) (ha : Int) (la : Int) (pa : Int) (w : World) (hl : ml.length ≤ 70) (hm : MOk w MA mc ml) :
    Calls Tryz.prog 9 #[.agg #[.int .i64 K, .int .i64 k0, .int .i64 k1, .int .i64 k2, .int .i64 k3, .bool s, .int .u64 h, .int .u64 l, .int .u16 p, .int .u8 q, .int .i64 y, .slice MA ml.length mc, .int .i64 wh, .int .i64 tm, .int .u8 fg, .slice LA ld.length lc, .int .u32 n, .int .u32 x, .int .u32 v, .bool sa, .int .u64 ha, .int .u64 la, .int .u16 pa]] w fun e w' => (∃ A4 c4, e = .returned (.agg #[.int .i64 K, .int .i64 k0, .int .i64 k1, .int .i64 k2, .int .i64 k3, .bool s, .int .u64 h, .int .u64 l, .int .u16 p, .int .u8 q, .int .i64 y, .slice A4 ml.length c4, .int .i64 wh, .int .i64 tm, .int .u8 fg, .slice LA ld.length lc, .int .u32 n, .int .u32 x, .int .u32 v, .bool sa, .int .u64 ha, .int .u64 la, .int .u16 pa]) ∧ MOk w' A4 c4 ml) ∧ Below w.heap.size w w' := by
  have HL70 := Lib.hid hl
  have HMC := Lib.hid (show ml.length ≤ mc ∧ mc ≤ maxLen from ⟨hm.1, hm.2.1⟩)
  have HE := Lib.hid hm.2.2
  clear hm hl
  go_enter Tryz.func9, Tryz.ntmps9
  go_upto_region 1 with fail
  obtain ⟨w1, hw1⟩ : ∃ w1 : World, w1 = (w.alloc (.cells #[.int .i64 K, .int .i64 k0, .int .i64 k1, .int .i64 k2, .int .i64 k3, .bool s, .int .u64 h, .int .u64 l, .int .u16 p, .int .u8 q, .int .i64 y, .slice MA ml.length mc, .int .i64 wh, .int .i64 tm, .int .u8 fg, .slice LA ld.length lc, .int .u32 n, .int .u32 x, .int .u32 v, .bool sa, .int .u64 ha, .int .u64 la, .int .u16 pa] 41)).alloc (.cells #[.int .i64 0, .int .i64 0, .int .i64 0, .int .i64 0, .int .i64 0, .bool false, .int .u64 0, .int .u64 0, .int .u16 0, .int .u8 0, .int .i64 0, .slice none 0 0, .int .i64 0, .int .i64 0, .int .u8 0, .slice none 0 0, .int .u32 0, .int .u32 0, .int .u32 0, .bool false, .int .u64 0, .int .u64 0, .int .u16 0] 33) := ⟨_, rfl⟩
  have HX := Lib.hid (show Blk w1 w.heap.size 41 #[.int .i64 K, .int .i64 k0, .int .i64 k1, .int .i64 k2, .int .i64 k3, .bool s, .int .u64 h, .int .u64 l, .int .u16 p, .int .u8 q, .int .i64 y, .slice MA ml.length mc, .int .i64 wh, .int .i64 tm, .int .u8 fg, .slice LA ld.length lc, .int .u32 n, .int .u32 x, .int .u32 v, .bool sa, .int .u64 ha, .int .u64 la, .int .u16 pa] by rw [hw1]; exact (Blk.new _ _ _).alloc _)
  have HRR := Lib.hid (show Blk w1 (w.heap.size + 1) 33 #[.int .i64 0, .int .i64 0, .int .i64 0, .int .i64 0, .int .i64 0, .bool false, .int .u64 0, .int .u64 0, .int .u16 0, .int .u8 0, .int .i64 0, .slice none 0 0, .int .i64 0, .int .i64 0, .int .u8 0, .slice none 0 0, .int .u32 0, .int .u32 0, .int .u32 0, .bool false, .int .u64 0, .int .u64 0, .int .u16 0] by rw [hw1]; exact Blk.new_ (by simp) _ _)
  have HW := Lib.hid (show Below w.heap.size w w1 by rw [hw1]; exact bel_two)
  have HK1 := Lib.hid (show Kept (fun _ => False) w w1 by rw [hw1]; exact ((Kept.refl _ _).alloc _).alloc _)
  rw [← hw1]
  clear hw1
  obtain ⟨rb, hrb⟩ : ∃ rb, w.heap.size + 1 = rb := ⟨_, rfl⟩
  have HRB := Lib.hid hrb
  rw [hrb] at HRR ⊢
  obtain ⟨xb, hxb⟩ : ∃ xb, w.heap.size = xb := ⟨_, rfl⟩
  rw [hxb] at HX ⊢
  clear hrb hxb
  have cx := HX.out.cell
  have xlt := HX.out.lt
  have ce0 := cx 0
  have ce1 := cx 1
  have ce2 := cx 2
  have ce3 := cx 3
  have ce4 := cx 4
  have ce5 := cx 5
  have ce6 := cx 6
  have ce7 := cx 7
  have ce8 := cx 8
  have ce9 := cx 9
  have ce10 := cx 10
  have ce11 := cx 11
  have ce12 := cx 12
  have ce13 := cx 13
  have ce14 := cx 14
  have ce15 := cx 15
  have ce16 := cx 16
  have ce17 := cx 17
  have ce18 := cx 18
  have ce19 := cx 19
  have ce20 := cx 20
  have ce21 := cx 21
  have ce22 := cx 22
  simp at ce0 ce1 ce2 ce3 ce4 ce5 ce6 ce7 ce8 ce9 ce10 ce11 ce12 ce13 ce14 ce15 ce16 ce17 ce18 ce19 ce20 ce21 ce22
  refine wp_region_kept 24 [(4, fun v u => ∃ A c, v = .agg #[.int .i64 k0, .int .i64 k1, .int .i64 k2, .int .i64 k3, .bool s, .int .u64 h, .int .u64 l, .int .u16 p, .int .u8 q, .int .i64 y, .slice A ml.length c] ∧ MOk u A c ml ∧ ∀ p, A = some p → w1.heap.size ≤ p.block)] ?st ?ne rfl (by kernel_rfl) (by kernel_rfl) ?_
  case st =>
    intro p hp
    simp only [List.mem_cons, List.not_mem_nil, or_false] at hp
    subst hp
    · rintro v u u' ⟨A, c, rfl, ⟨h1, h2, h3⟩, h4⟩ hk; exact ⟨A, c, rfl, ⟨h1, h2, h3.on hk (fun _ _ h => h)⟩, h4⟩
  case ne =>
    intro p hp
    simp only [List.mem_cons, List.not_mem_nil, or_false] at hp
    subst hp
    · exact ⟨_, _, (Kept.refl _ _).alloc (.cells (ml.map Mb.cs).flatten.toArray 89), some ⟨w1.heap.size, 0, none⟩, ml.length, rfl, ⟨Nat.le_refl _, (by have := HL70.out; unfold maxLen; omega), .inr ⟨_, 0, (by simp), rfl, ElAt.of_blk (Blk.new _ _ _) (sz_map Mb.cs_len _) (by simp)⟩⟩, fun p e => by injection e with e; subst e; exact Nat.le_refl _⟩
  simp only [List.take_succ_cons, List.take_zero, List.drop_succ_cons, List.drop_zero]
  intro G pick hR hp1 hp2
  have p0 : ∀ u, (pick u).cell? ⟨xb, 0, none⟩ = some (.int .i64 K) := fun u => ((hp1 u).cell xlt (fun h => h) _).trans ce0
  have p1 : ∀ u, (pick u).cell? ⟨xb, 1, none⟩ = some (.int .i64 k0) := fun u => ((hp1 u).cell xlt (fun h => h) _).trans ce1
  have p2 : ∀ u, (pick u).cell? ⟨xb, 2, none⟩ = some (.int .i64 k1) := fun u => ((hp1 u).cell xlt (fun h => h) _).trans ce2
  have p3 : ∀ u, (pick u).cell? ⟨xb, 3, none⟩ = some (.int .i64 k2) := fun u => ((hp1 u).cell xlt (fun h => h) _).trans ce3
  have p4 : ∀ u, (pick u).cell? ⟨xb, 4, none⟩ = some (.int .i64 k3) := fun u => ((hp1 u).cell xlt (fun h => h) _).trans ce4
  have p5 : ∀ u, (pick u).cell? ⟨xb, 5, none⟩ = some (.bool s) := fun u => ((hp1 u).cell xlt (fun h => h) _).trans ce5
  have p6 : ∀ u, (pick u).cell? ⟨xb, 6, none⟩ = some (.int .u64 h) := fun u => ((hp1 u).cell xlt (fun h => h) _).trans ce6
  have p7 : ∀ u, (pick u).cell? ⟨xb, 7, none⟩ = some (.int .u64 l) := fun u => ((hp1 u).cell xlt (fun h => h) _).trans ce7
  have p8 : ∀ u, (pick u).cell? ⟨xb, 8, none⟩ = some (.int .u16 p) := fun u => ((hp1 u).cell xlt (fun h => h) _).trans ce8
  have p9 : ∀ u, (pick u).cell? ⟨xb, 9, none⟩ = some (.int .u8 q) := fun u => ((hp1 u).cell xlt (fun h => h) _).trans ce9
  have p10 : ∀ u, (pick u).cell? ⟨xb, 10, none⟩ = some (.int .i64 y) := fun u => ((hp1 u).cell xlt (fun h => h) _).trans ce10
  have p11 : ∀ u, (pick u).cell? ⟨xb, 11, none⟩ = some (.slice MA ml.length mc) := fun u => ((hp1 u).cell xlt (fun h => h) _).trans ce11
  have p12 : ∀ u, (pick u).cell? ⟨xb, 12, none⟩ = some (.int .i64 wh) := fun u => ((hp1 u).cell xlt (fun h => h) _).trans ce12
  have p13 : ∀ u, (pick u).cell? ⟨xb, 13, none⟩ = some (.int .i64 tm) := fun u => ((hp1 u).cell xlt (fun h => h) _).trans ce13
  have p14 : ∀ u, (pick u).cell? ⟨xb, 14, none⟩ = some (.int .u8 fg) := fun u => ((hp1 u).cell xlt (fun h => h) _).trans ce14
  have p15 : ∀ u, (pick u).cell? ⟨xb, 15, none⟩ = some (.slice LA ld.length lc) := fun u => ((hp1 u).cell xlt (fun h => h) _).trans ce15
  have p16 : ∀ u, (pick u).cell? ⟨xb, 16, none⟩ = some (.int .u32 n) := fun u => ((hp1 u).cell xlt (fun h => h) _).trans ce16
  have p17 : ∀ u, (pick u).cell? ⟨xb, 17, none⟩ = some (.int .u32 x) := fun u => ((hp1 u).cell xlt (fun h => h) _).trans ce17
  have p18 : ∀ u, (pick u).cell? ⟨xb, 18, none⟩ = some (.int .u32 v) := fun u => ((hp1 u).cell xlt (fun h => h) _).trans ce18
  have p19 : ∀ u, (pick u).cell? ⟨xb, 19, none⟩ = some (.bool sa) := fun u => ((hp1 u).cell xlt (fun h => h) _).trans ce19
  have p20 : ∀ u, (pick u).cell? ⟨xb, 20, none⟩ = some (.int .u64 ha) := fun u => ((hp1 u).cell xlt (fun h => h) _).trans ce20
  have p21 : ∀ u, (pick u).cell? ⟨xb, 21, none⟩ = some (.int .u64 la) := fun u => ((hp1 u).cell xlt (fun h => h) _).trans ce21
  have p22 : ∀ u, (pick u).cell? ⟨xb, 22, none⟩ = some (.int .u16 pa) := fun u => ((hp1 u).cell xlt (fun h => h) _).trans ce22
  repeat (first | (refine wpR_det hp2 rfl ((hR.rel _).trans rfl) rfl ?_; intro K hK; go_big_quiet_op; go_big_quiet_on) | (refine wpR_ptr hp2 rfl ((hR.rel _).trans rfl) rfl rfl ?_; intro K hK; go_big_quiet_op; go_big_quiet_on) | (refine wpR_skip pick rfl ?_; intro K hK; go_big_quiet_op; go_big_quiet_on))
  refine wpR_rel pick rfl ((hR.rel _).trans rfl) ((hR.turns _).trans rfl) ?_ ?_
  · intro u hu
    have hk := hR.since hu.1
    have hks := hk.size
    have hz := op_any k0 k1 k2 k3 s h l p q y MA mc ml u HL70.out (HE.out.on (Kept.trans HK1.out hk) (fun _ _ h => h))
    unfold relAt
    go_simp
    refine hz.mono ?_
    rintro e w' ⟨⟨m, rfl, A', c', rfl, hm, hf⟩, hb'⟩
    exact ⟨_, rfl, hR.intoB hb', hR.put 0 rfl rfl ⟨A', c', rfl, hm, fun p e => Nat.le_trans hks (hf p e)⟩⟩
  intro v hv
  obtain ⟨u, _, hu⟩ := hv
  obtain ⟨A4, c4, rfl, -, -⟩ := hR.get 0 rfl hu
  clear hu
  intro K hK
  go_big_quiet_op
  go_big_quiet_on
  repeat (first | (refine wpR_det hp2 rfl ((hR.rel _).trans rfl) rfl ?_; intro K hK; go_big_quiet_op; go_big_quiet_on) | (refine wpR_ptr hp2 rfl ((hR.rel _).trans rfl) rfl rfl ?_; intro K hK; go_big_quiet_op; go_big_quiet_on) | (refine wpR_skip pick rfl ?_; intro K hK; go_big_quiet_op; go_big_quiet_on))
  refine wpR_nil ?_
  intro w2 hk2 hF hM
  have HT := Lib.hid ((hR.get 0 rfl (hF _ _ (Got.upd_self _ _ _))))
  have HR2 := Lib.hid (HRR.out.kept hk2 (fun h => h))
  have HW2 := Lib.hid (HW.out.trans (hk2.below HW.out.size (fun i h => h.elim)))
  have rlt := HR2.out.lt
  clear hF hM hk2 hp1 hp2 hR cx xlt ce0 p0 ce1 p1 ce2 p2 ce3 p3 ce4 p4 ce5 p5 ce6 p6 ce7 p7 ce8 p8 ce9 p9 ce10 p10 ce11 p11 ce12 p12 ce13 p13 ce14 p14 ce15 p15 ce16 p16 ce17 p17 ce18 p18 ce19 p19 ce20 p20 ce21 p21 ce22 p22
  refine wpList_store_mid rfl 33 (.tmp 2) (.tmp 26) rfl rb 0 #[.int .i64 K, .int .i64 k0, .int .i64 k1, .int .i64 k2, .int .i64 k3, .bool s, .int .u64 h, .int .u64 l, .int .u16 p, .int .u8 q, .int .i64 y, .slice A4 ml.length c4, .int .i64 wh, .int .i64 tm, .int .u8 fg, .slice LA ld.length lc, .int .u32 n, .int .u32 x, .int .u32 v, .bool sa, .int .u64 ha, .int .u64 la, .int .u16 pa] rfl rfl (HR2.out.there rfl) (by kernel_rfl) (by simp [Value.oneCell']) ?_
  have HK9 := Lib.hid (show Kept (fun i => i = rb) w2 (w2.setCells rb 0 (#[.int .i64 K, .int .i64 k0, .int .i64 k1, .int .i64 k2, .int .i64 k3, .bool s, .int .u64 h, .int .u64 l, .int .u16 p, .int .u8 q, .int .i64 y, .slice A4 ml.length c4, .int .i64 wh, .int .i64 tm, .int .u8 fg, .slice LA ld.length lc, .int .u32 n, .int .u32 x, .int .u32 v, .bool sa, .int .u64 ha, .int .u64 la, .int .u16 pa] : Array Value).toList) from Kept.setCells (S := fun i => i = rb) rfl _ _ (Kept.refl _ _))
  have HR9 := Lib.hid (HR2.out.setAll #[.int .i64 K, .int .i64 k0, .int .i64 k1, .int .i64 k2, .int .i64 k3, .bool s, .int .u64 h, .int .u64 l, .int .u16 p, .int .u8 q, .int .i64 y, .slice A4 ml.length c4, .int .i64 wh, .int .i64 tm, .int .u8 fg, .slice LA ld.length lc, .int .u32 n, .int .u32 x, .int .u32 v, .bool sa, .int .u64 ha, .int .u64 la, .int .u16 pa] rfl)
  generalize (World.setCells _ _ _ _) = w9 at HK9 HR9 ⊢
  go_wp2_with fail
  refine bodyPost_ret (results_blk1 (P := Tryz.prog) (show Tryz.f9.results = _ from rfl) _ _ rb 33 #[.int .i64 K, .int .i64 k0, .int .i64 k1, .int .i64 k2, .int .i64 k3, .bool s, .int .u64 h, .int .u64 l, .int .u16 p, .int .u8 q, .int .i64 y, .slice A4 ml.length c4, .int .i64 wh, .int .i64 tm, .int .u8 fg, .slice LA ld.length lc, .int .u32 n, .int .u32 x, .int .u32 v, .bool sa, .int .u64 ha, .int .u64 la, .int .u16 pa] _ rfl HR9.out Tryz.underlying33 rfl (by kernel_rfl)) rfl ⟨⟨A4, c4, rfl, ?_⟩, ?_⟩
  · obtain ⟨A', c', e, ⟨h1, h2, h3⟩, h4⟩ := HT.out
    obtain ⟨rfl, rfl⟩ : A4 = A' ∧ c4 = c' := by simpa using e
    refine ⟨h1, h2, ?_⟩
    rcases h3 with h3 | ⟨b, off, hb, rfl, he⟩
    · exact .inl h3
    · have hne : b ≠ rb := by
        have := h4 _ rfl
        have h5 := HRR.out.lt
        intro e
        subst e
        simp at this
        omega
      exact .inr ⟨b, off, by have := HK9.out.size; omega, rfl, he.keep (fun o => HK9.out.cell hb hne o)⟩
  · exact HW2.out.trans (HK9.out.below HW2.out.size (fun i e => by have := HRB.out; omega))
end Go.Proofs.YthfdhggcnkgjfaaGreatDoor
/- A block that is known whole, as a range. -/
namespace Go.Proofs.YthfdhggcnkgjfaaGreatDoor
open Go.RowKit
set_option linter.unusedVariables false
theorem Blk.range {w : World} {g t : Nat} {cs : Array Value} (h : Blk w g t cs) : w.rangeAt g 0 cs.toList := by
  have := World.rangeAt_of_block h 0 cs.size
  simpa using this
end Go.Proofs.YthfdhggcnkgjfaaGreatDoor
