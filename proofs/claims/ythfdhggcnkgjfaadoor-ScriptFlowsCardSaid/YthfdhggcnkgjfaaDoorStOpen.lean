/- Arguments that are steps, opened. -/
import Derived.Test.YthfdhggcnkgjfaaDoorRows
import Derived.Test.YthfdhggcnkgjfaaDoorOpenN
import Derived.Lib.SmallJoins
namespace Go.Proofs.YthfdhggcnkgjfaaDoor
open Go.Joins Go.ChangeShapes Go.WideShapes Go.ChangeAt Go.RowKit Go.Deep
set_option linter.unusedVariables false
set_option maxHeartbeats 2000000
set_option linter.unusedSimpArgs false
set_option maxRecDepth 4000
/-- A slice of members as a value. -/
structure Mb where
  back : Int
  weight : Int
def Mb.cs (a : Mb) : List Value := [.int .i64 a.back, .int .i64 a.weight]
theorem Mb.cs_len (a : Mb) : a.cs.length = 2 := rfl
structure MV where
  A : Option Addr
  c : Nat
  l : List Mb
def MV.val (x : MV) : Value := .slice x.A x.l.length x.c
def MV.cs (x : MV) : List Value := [.slice x.A x.l.length x.c]
theorem MV.cs_len (a : MV) : a.cs.length = 1 := rfl
def MV.wf (x : MV) (w : World) : Prop := x.l.length ≤ x.c ∧ x.c ≤ maxLen ∧ ES w w.heap.size x.A 2 (x.l.map Mb.cs)
theorem trod_Mb {H : Type} {enc : TypeId × Value → H} {w : World} {base : Nat} {spare : Nat → Bool} {held : Bool} {fuel : Nat} {l : List Value} {x : DataW H × List MemPlace} (h : DataW.trod enc Tryd.prog w base spare held fuel 43 l = some x) (hl : l.length = 2) : ∃ a : Mb, l = a.cs ∧ True := by
  match l, hl with
  | [c0, c1], _ =>
    obtain ⟨xs, n, -, -, -, hlen, hg⟩ := DataW.trod_struct Tryd.underlying43 h
    have hlk : xs.length = 2 := hlen
    have g0 : DataW.trod enc Tryd.prog w base spare held n 3 (([c0, c1].drop 0).take (Tryd.prog.cellsOf 3)) = xs[0]? := hg 0 _ rfl
    have g1 : DataW.trod enc Tryd.prog w base spare held n 3 (([c0, c1].drop 1).take (Tryd.prog.cellsOf 3)) = xs[1]? := hg 1 _ rfl
    rw [show Tryd.prog.cellsOf 3 = 1 by kernel_rfl, List.getElem?_eq_getElem (by omega)] at g0 g1
    obtain ⟨a0, e0, -, z0⟩ := DataW.trod_int Tryd.underlying3 g0
    obtain ⟨a1, e1, -, z1⟩ := DataW.trod_int Tryd.underlying3 g1
    simp at e0 e1
    subst e0 e1
    exact ⟨⟨a0, a1⟩, rfl, trivial⟩
theorem trod_MV {H : Type} {enc : TypeId × Value → H} {w : World} {base : Nat} {spare : Nat → Bool} {held : Bool} {fuel : Nat} {l : List Value} {x : DataW H × List MemPlace} (h : DataW.trod enc Tryd.prog w base spare held fuel 35 l = some x) (hl : l.length = 1) : ∃ a : MV, l = a.cs ∧ a.wf w := by
  match l, hl with
  | [c0], _ =>
    obtain ⟨A, len, cap, e⟩ := trod_slice_form Tryd.underlying35 h
    injection e with e
    subst e
    obtain ⟨L, rfl, h1, h2, h3, -⟩ := open_elems (e := 43) (sz := 2) Mb.cs (fun _ => True) ⟨0, 0⟩ Tryd.underlying35 (by kernel_rfl) (by omega) (fun _ => rfl) (fun fuel l x h hl => trod_Mb h hl) h
    exact ⟨⟨A, cap, L⟩, rfl, h1, h2, h3⟩
structure Ad where
  six : Bool
  high : Int
  low : Int
def Ad.cs (a : Ad) : List Value := [.bool a.six, .int .u64 a.high, .int .u64 a.low]
theorem Ad.cs_len (a : Ad) : a.cs.length = 3 := rfl
def Ad.wf (a : Ad) (w : World) : Prop := (0 ≤ a.high ∧ a.high ≤ 18446744073709551615) ∧ (0 ≤ a.low ∧ a.low ≤ 18446744073709551615)
theorem trod_Ad {H : Type} {enc : TypeId × Value → H} {w : World} {base : Nat} {spare : Nat → Bool} {held : Bool} {fuel : Nat} {l : List Value} {x : DataW H × List MemPlace} (h : DataW.trod enc Tryd.prog w base spare held fuel 25 l = some x) (hl : l.length = 3) : ∃ a : Ad, l = a.cs ∧ a.wf w := by
  match l, hl with
  | [c0, c1, c2], _ =>
    obtain ⟨xs, n, -, -, -, hlen, hg⟩ := DataW.trod_struct Tryd.underlying25 h
    have hlk : xs.length = 3 := hlen
    have g0 : DataW.trod enc Tryd.prog w base spare held n 4 (([c0, c1, c2].drop 0).take (Tryd.prog.cellsOf 4)) = xs[0]? := hg 0 _ rfl
    rw [show Tryd.prog.cellsOf 4 = 1 by kernel_rfl, List.getElem?_eq_getElem (by omega)] at g0
    have g1 : DataW.trod enc Tryd.prog w base spare held n 23 (([c0, c1, c2].drop 1).take (Tryd.prog.cellsOf 23)) = xs[1]? := hg 1 _ rfl
    rw [show Tryd.prog.cellsOf 23 = 1 by kernel_rfl, List.getElem?_eq_getElem (by omega)] at g1
    have g2 : DataW.trod enc Tryd.prog w base spare held n 23 (([c0, c1, c2].drop 2).take (Tryd.prog.cellsOf 23)) = xs[2]? := hg 2 _ rfl
    rw [show Tryd.prog.cellsOf 23 = 1 by kernel_rfl, List.getElem?_eq_getElem (by omega)] at g2
    obtain ⟨a0, e0, -⟩ := DataW.trod_bool Tryd.underlying4 g0
    simp at e0
    subst e0
    obtain ⟨a1, e1, -, z1⟩ := DataW.trod_int Tryd.underlying23 g1
    simp [Lit.wf, IntKind.min, IntKind.max, IntKind.signed, IntKind.bits] at e1 z1
    subst e1
    obtain ⟨a2, e2, -, z2⟩ := DataW.trod_int Tryd.underlying23 g2
    simp [Lit.wf, IntKind.min, IntKind.max, IntKind.signed, IntKind.bits] at e2 z2
    subst e2
    exact ⟨⟨a0, a1, a2⟩, rfl, ⟨⟨by simpa using z1.1, by simpa using z1.2⟩, ⟨by simpa using z2.1, by simpa using z2.2⟩⟩⟩
structure Ops where
  kind : Int
  vip : Int
  backend : Int
  version : Int
  addr : Ad
  port : Int
  proto : Int
  way : Int
  mem : MV
def Ops.cs (a : Ops) : List Value := [.int .i64 a.kind] ++ [.int .i64 a.vip] ++ [.int .i64 a.backend] ++ [.int .i64 a.version] ++ a.addr.cs ++ [.int .u16 a.port] ++ [.int .u8 a.proto] ++ [.int .i64 a.way] ++ a.mem.cs
theorem Ops.cs_len (a : Ops) : a.cs.length = 11 := rfl
def Ops.wf (a : Ops) (w : World) : Prop := (-9223372036854775808 ≤ a.kind ∧ a.kind ≤ 9223372036854775807) ∧ (-9223372036854775808 ≤ a.vip ∧ a.vip ≤ 9223372036854775807) ∧ (-9223372036854775808 ≤ a.backend ∧ a.backend ≤ 9223372036854775807) ∧ (-9223372036854775808 ≤ a.version ∧ a.version ≤ 9223372036854775807) ∧ a.addr.wf w ∧ (0 ≤ a.port ∧ a.port ≤ 65535) ∧ (0 ≤ a.proto ∧ a.proto ≤ 255) ∧ (-9223372036854775808 ≤ a.way ∧ a.way ≤ 9223372036854775807) ∧ a.mem.wf w
theorem trod_Ops {H : Type} {enc : TypeId × Value → H} {w : World} {base : Nat} {spare : Nat → Bool} {held : Bool} {fuel : Nat} {l : List Value} {x : DataW H × List MemPlace} (h : DataW.trod enc Tryd.prog w base spare held fuel 37 l = some x) (hl : l.length = 11) : ∃ a : Ops, l = a.cs ∧ a.wf w := by
  match l, hl with
  | [c0, c1, c2, c3, c4, c5, c6, c7, c8, c9, c10], _ =>
    obtain ⟨xs, n, -, -, -, hlen, hg⟩ := DataW.trod_struct Tryd.underlying37 h
    have hlk : xs.length = 9 := hlen
    have g0 : DataW.trod enc Tryd.prog w base spare held n 3 (([c0, c1, c2, c3, c4, c5, c6, c7, c8, c9, c10].drop 0).take (Tryd.prog.cellsOf 3)) = xs[0]? := hg 0 _ rfl
    rw [show Tryd.prog.cellsOf 3 = 1 by kernel_rfl, List.getElem?_eq_getElem (by omega)] at g0
    have g1 : DataW.trod enc Tryd.prog w base spare held n 3 (([c0, c1, c2, c3, c4, c5, c6, c7, c8, c9, c10].drop 1).take (Tryd.prog.cellsOf 3)) = xs[1]? := hg 1 _ rfl
    rw [show Tryd.prog.cellsOf 3 = 1 by kernel_rfl, List.getElem?_eq_getElem (by omega)] at g1
    have g2 : DataW.trod enc Tryd.prog w base spare held n 3 (([c0, c1, c2, c3, c4, c5, c6, c7, c8, c9, c10].drop 2).take (Tryd.prog.cellsOf 3)) = xs[2]? := hg 2 _ rfl
    rw [show Tryd.prog.cellsOf 3 = 1 by kernel_rfl, List.getElem?_eq_getElem (by omega)] at g2
    have g3 : DataW.trod enc Tryd.prog w base spare held n 3 (([c0, c1, c2, c3, c4, c5, c6, c7, c8, c9, c10].drop 3).take (Tryd.prog.cellsOf 3)) = xs[3]? := hg 3 _ rfl
    rw [show Tryd.prog.cellsOf 3 = 1 by kernel_rfl, List.getElem?_eq_getElem (by omega)] at g3
    have g4 : DataW.trod enc Tryd.prog w base spare held n 25 (([c0, c1, c2, c3, c4, c5, c6, c7, c8, c9, c10].drop 4).take (Tryd.prog.cellsOf 25)) = xs[4]? := hg 4 _ rfl
    rw [show Tryd.prog.cellsOf 25 = 3 by kernel_rfl, List.getElem?_eq_getElem (by omega)] at g4
    have g5 : DataW.trod enc Tryd.prog w base spare held n 26 (([c0, c1, c2, c3, c4, c5, c6, c7, c8, c9, c10].drop 7).take (Tryd.prog.cellsOf 26)) = xs[5]? := hg 5 _ rfl
    rw [show Tryd.prog.cellsOf 26 = 1 by kernel_rfl, List.getElem?_eq_getElem (by omega)] at g5
    have g6 : DataW.trod enc Tryd.prog w base spare held n 5 (([c0, c1, c2, c3, c4, c5, c6, c7, c8, c9, c10].drop 8).take (Tryd.prog.cellsOf 5)) = xs[6]? := hg 6 _ rfl
    rw [show Tryd.prog.cellsOf 5 = 1 by kernel_rfl, List.getElem?_eq_getElem (by omega)] at g6
    have g7 : DataW.trod enc Tryd.prog w base spare held n 3 (([c0, c1, c2, c3, c4, c5, c6, c7, c8, c9, c10].drop 9).take (Tryd.prog.cellsOf 3)) = xs[7]? := hg 7 _ rfl
    rw [show Tryd.prog.cellsOf 3 = 1 by kernel_rfl, List.getElem?_eq_getElem (by omega)] at g7
    have g8 : DataW.trod enc Tryd.prog w base spare held n 35 (([c0, c1, c2, c3, c4, c5, c6, c7, c8, c9, c10].drop 10).take (Tryd.prog.cellsOf 35)) = xs[8]? := hg 8 _ rfl
    rw [show Tryd.prog.cellsOf 35 = 1 by kernel_rfl, List.getElem?_eq_getElem (by omega)] at g8
    obtain ⟨a0, e0, -, z0⟩ := DataW.trod_int Tryd.underlying3 g0
    simp [Lit.wf, IntKind.min, IntKind.max, IntKind.signed, IntKind.bits] at e0 z0
    subst e0
    obtain ⟨a1, e1, -, z1⟩ := DataW.trod_int Tryd.underlying3 g1
    simp [Lit.wf, IntKind.min, IntKind.max, IntKind.signed, IntKind.bits] at e1 z1
    subst e1
    obtain ⟨a2, e2, -, z2⟩ := DataW.trod_int Tryd.underlying3 g2
    simp [Lit.wf, IntKind.min, IntKind.max, IntKind.signed, IntKind.bits] at e2 z2
    subst e2
    obtain ⟨a3, e3, -, z3⟩ := DataW.trod_int Tryd.underlying3 g3
    simp [Lit.wf, IntKind.min, IntKind.max, IntKind.signed, IntKind.bits] at e3 z3
    subst e3
    obtain ⟨a4, e4, z4⟩ := trod_Ad g4 rfl
    have e4' : [c4, c5, c6] = a4.cs := e4
    unfold Ad.cs at e4'
    first | simp only [List.cons.injEq, and_true] at e4' | simp only [List.cons_append, List.nil_append, List.cons.injEq, and_true] at e4'
    obtain ⟨rfl, rfl, rfl⟩ := e4'
    obtain ⟨a5, e5, -, z5⟩ := DataW.trod_int Tryd.underlying26 g5
    simp [Lit.wf, IntKind.min, IntKind.max, IntKind.signed, IntKind.bits] at e5 z5
    subst e5
    obtain ⟨a6, e6, -, z6⟩ := DataW.trod_int Tryd.underlying5 g6
    simp [Lit.wf, IntKind.min, IntKind.max, IntKind.signed, IntKind.bits] at e6 z6
    subst e6
    obtain ⟨a7, e7, -, z7⟩ := DataW.trod_int Tryd.underlying3 g7
    simp [Lit.wf, IntKind.min, IntKind.max, IntKind.signed, IntKind.bits] at e7 z7
    subst e7
    obtain ⟨a8, e8, z8⟩ := trod_MV g8 rfl
    have e8' : [c10] = a8.cs := e8
    unfold MV.cs at e8'
    first | simp only [List.cons.injEq, and_true] at e8' | simp only [List.cons_append, List.nil_append, List.cons.injEq, and_true] at e8'
    obtain ⟨rfl⟩ := e8'
    exact ⟨⟨a0, a1, a2, a3, a4, a5, a6, a7, a8⟩, rfl, ⟨⟨by simpa using z0.1, by simpa using z0.2⟩, ⟨by simpa using z1.1, by simpa using z1.2⟩, ⟨by simpa using z2.1, by simpa using z2.2⟩, ⟨by simpa using z3.1, by simpa using z3.2⟩, z4, ⟨by simpa using z5.1, by simpa using z5.2⟩, ⟨by simpa using z6.1, by simpa using z6.2⟩, ⟨by simpa using z7.1, by simpa using z7.2⟩, z8⟩⟩
structure St where
  kind : Int
  op : Ops
  who : Int
  time : Int
  flags : Int
  load : BV
  n : Int
  x : Int
  y : Int
  src : Ad
  port : Int
def St.cs (a : St) : List Value := [.int .i64 a.kind] ++ a.op.cs ++ [.int .i64 a.who] ++ [.int .i64 a.time] ++ [.int .u8 a.flags] ++ [a.load.val] ++ [.int .u32 a.n] ++ [.int .u32 a.x] ++ [.int .u32 a.y] ++ a.src.cs ++ [.int .u16 a.port]
theorem St.cs_len (a : St) : a.cs.length = 23 := rfl
def St.wf (a : St) (w : World) : Prop := (-9223372036854775808 ≤ a.kind ∧ a.kind ≤ 9223372036854775807) ∧ a.op.wf w ∧ (-9223372036854775808 ≤ a.who ∧ a.who ≤ 9223372036854775807) ∧ (-9223372036854775808 ≤ a.time ∧ a.time ≤ 9223372036854775807) ∧ (0 ≤ a.flags ∧ a.flags ≤ 255) ∧ a.load.ok w ∧ (0 ≤ a.n ∧ a.n ≤ 4294967295) ∧ (0 ≤ a.x ∧ a.x ≤ 4294967295) ∧ (0 ≤ a.y ∧ a.y ≤ 4294967295) ∧ a.src.wf w ∧ (0 ≤ a.port ∧ a.port ≤ 65535)
theorem trod_St {H : Type} {enc : TypeId × Value → H} {w : World} {base : Nat} {spare : Nat → Bool} {held : Bool} {fuel : Nat} {l : List Value} {x : DataW H × List MemPlace} (h : DataW.trod enc Tryd.prog w base spare held fuel 41 l = some x) (hl : l.length = 23) : ∃ a : St, l = a.cs ∧ a.wf w := by
  match l, hl with
  | [c0, c1, c2, c3, c4, c5, c6, c7, c8, c9, c10, c11, c12, c13, c14, c15, c16, c17, c18, c19, c20, c21, c22], _ =>
    obtain ⟨xs, n, -, -, -, hlen, hg⟩ := DataW.trod_struct Tryd.underlying41 h
    have hlk : xs.length = 11 := hlen
    have g0 : DataW.trod enc Tryd.prog w base spare held n 3 (([c0, c1, c2, c3, c4, c5, c6, c7, c8, c9, c10, c11, c12, c13, c14, c15, c16, c17, c18, c19, c20, c21, c22].drop 0).take (Tryd.prog.cellsOf 3)) = xs[0]? := hg 0 _ rfl
    rw [show Tryd.prog.cellsOf 3 = 1 by kernel_rfl, List.getElem?_eq_getElem (by omega)] at g0
    have g1 : DataW.trod enc Tryd.prog w base spare held n 37 (([c0, c1, c2, c3, c4, c5, c6, c7, c8, c9, c10, c11, c12, c13, c14, c15, c16, c17, c18, c19, c20, c21, c22].drop 1).take (Tryd.prog.cellsOf 37)) = xs[1]? := hg 1 _ rfl
    rw [show Tryd.prog.cellsOf 37 = 11 by kernel_rfl, List.getElem?_eq_getElem (by omega)] at g1
    have g2 : DataW.trod enc Tryd.prog w base spare held n 3 (([c0, c1, c2, c3, c4, c5, c6, c7, c8, c9, c10, c11, c12, c13, c14, c15, c16, c17, c18, c19, c20, c21, c22].drop 12).take (Tryd.prog.cellsOf 3)) = xs[2]? := hg 2 _ rfl
    rw [show Tryd.prog.cellsOf 3 = 1 by kernel_rfl, List.getElem?_eq_getElem (by omega)] at g2
    have g3 : DataW.trod enc Tryd.prog w base spare held n 3 (([c0, c1, c2, c3, c4, c5, c6, c7, c8, c9, c10, c11, c12, c13, c14, c15, c16, c17, c18, c19, c20, c21, c22].drop 13).take (Tryd.prog.cellsOf 3)) = xs[3]? := hg 3 _ rfl
    rw [show Tryd.prog.cellsOf 3 = 1 by kernel_rfl, List.getElem?_eq_getElem (by omega)] at g3
    have g4 : DataW.trod enc Tryd.prog w base spare held n 5 (([c0, c1, c2, c3, c4, c5, c6, c7, c8, c9, c10, c11, c12, c13, c14, c15, c16, c17, c18, c19, c20, c21, c22].drop 14).take (Tryd.prog.cellsOf 5)) = xs[4]? := hg 4 _ rfl
    rw [show Tryd.prog.cellsOf 5 = 1 by kernel_rfl, List.getElem?_eq_getElem (by omega)] at g4
    have g5 : DataW.trod enc Tryd.prog w base spare held n 38 (([c0, c1, c2, c3, c4, c5, c6, c7, c8, c9, c10, c11, c12, c13, c14, c15, c16, c17, c18, c19, c20, c21, c22].drop 15).take (Tryd.prog.cellsOf 38)) = xs[5]? := hg 5 _ rfl
    rw [show Tryd.prog.cellsOf 38 = 1 by kernel_rfl, List.getElem?_eq_getElem (by omega)] at g5
    have g6 : DataW.trod enc Tryd.prog w base spare held n 39 (([c0, c1, c2, c3, c4, c5, c6, c7, c8, c9, c10, c11, c12, c13, c14, c15, c16, c17, c18, c19, c20, c21, c22].drop 16).take (Tryd.prog.cellsOf 39)) = xs[6]? := hg 6 _ rfl
    rw [show Tryd.prog.cellsOf 39 = 1 by kernel_rfl, List.getElem?_eq_getElem (by omega)] at g6
    have g7 : DataW.trod enc Tryd.prog w base spare held n 39 (([c0, c1, c2, c3, c4, c5, c6, c7, c8, c9, c10, c11, c12, c13, c14, c15, c16, c17, c18, c19, c20, c21, c22].drop 17).take (Tryd.prog.cellsOf 39)) = xs[7]? := hg 7 _ rfl
    rw [show Tryd.prog.cellsOf 39 = 1 by kernel_rfl, List.getElem?_eq_getElem (by omega)] at g7
    have g8 : DataW.trod enc Tryd.prog w base spare held n 39 (([c0, c1, c2, c3, c4, c5, c6, c7, c8, c9, c10, c11, c12, c13, c14, c15, c16, c17, c18, c19, c20, c21, c22].drop 18).take (Tryd.prog.cellsOf 39)) = xs[8]? := hg 8 _ rfl
    rw [show Tryd.prog.cellsOf 39 = 1 by kernel_rfl, List.getElem?_eq_getElem (by omega)] at g8
    have g9 : DataW.trod enc Tryd.prog w base spare held n 25 (([c0, c1, c2, c3, c4, c5, c6, c7, c8, c9, c10, c11, c12, c13, c14, c15, c16, c17, c18, c19, c20, c21, c22].drop 19).take (Tryd.prog.cellsOf 25)) = xs[9]? := hg 9 _ rfl
    rw [show Tryd.prog.cellsOf 25 = 3 by kernel_rfl, List.getElem?_eq_getElem (by omega)] at g9
    have g10 : DataW.trod enc Tryd.prog w base spare held n 26 (([c0, c1, c2, c3, c4, c5, c6, c7, c8, c9, c10, c11, c12, c13, c14, c15, c16, c17, c18, c19, c20, c21, c22].drop 22).take (Tryd.prog.cellsOf 26)) = xs[10]? := hg 10 _ rfl
    rw [show Tryd.prog.cellsOf 26 = 1 by kernel_rfl, List.getElem?_eq_getElem (by omega)] at g10
    obtain ⟨a0, e0, -, z0⟩ := DataW.trod_int Tryd.underlying3 g0
    simp [Lit.wf, IntKind.min, IntKind.max, IntKind.signed, IntKind.bits] at e0 z0
    subst e0
    obtain ⟨a1, e1, z1⟩ := trod_Ops g1 rfl
    have e1' : [c1, c2, c3, c4, c5, c6, c7, c8, c9, c10, c11] = a1.cs := e1
    unfold Ops.cs at e1'
    first | simp only [List.cons.injEq, and_true] at e1' | simp only [List.cons_append, List.nil_append, List.cons.injEq, and_true] at e1'
    obtain ⟨rfl, rfl, rfl, rfl, rfl, rfl, rfl, rfl, rfl, rfl, rfl⟩ := e1'
    obtain ⟨a2, e2, -, z2⟩ := DataW.trod_int Tryd.underlying3 g2
    simp [Lit.wf, IntKind.min, IntKind.max, IntKind.signed, IntKind.bits] at e2 z2
    subst e2
    obtain ⟨a3, e3, -, z3⟩ := DataW.trod_int Tryd.underlying3 g3
    simp [Lit.wf, IntKind.min, IntKind.max, IntKind.signed, IntKind.bits] at e3 z3
    subst e3
    obtain ⟨a4, e4, -, z4⟩ := DataW.trod_int Tryd.underlying5 g4
    simp [Lit.wf, IntKind.min, IntKind.max, IntKind.signed, IntKind.bits] at e4 z4
    subst e4
    obtain ⟨a5, rfl, z5⟩ := trod_bytes Tryd.underlying38 Tryd.underlying5 (by kernel_rfl) g5
    obtain ⟨a6, e6, -, z6⟩ := DataW.trod_int Tryd.underlying39 g6
    simp [Lit.wf, IntKind.min, IntKind.max, IntKind.signed, IntKind.bits] at e6 z6
    subst e6
    obtain ⟨a7, e7, -, z7⟩ := DataW.trod_int Tryd.underlying39 g7
    simp [Lit.wf, IntKind.min, IntKind.max, IntKind.signed, IntKind.bits] at e7 z7
    subst e7
    obtain ⟨a8, e8, -, z8⟩ := DataW.trod_int Tryd.underlying39 g8
    simp [Lit.wf, IntKind.min, IntKind.max, IntKind.signed, IntKind.bits] at e8 z8
    subst e8
    obtain ⟨a9, e9, z9⟩ := trod_Ad g9 rfl
    have e9' : [c19, c20, c21] = a9.cs := e9
    unfold Ad.cs at e9'
    first | simp only [List.cons.injEq, and_true] at e9' | simp only [List.cons_append, List.nil_append, List.cons.injEq, and_true] at e9'
    obtain ⟨rfl, rfl, rfl⟩ := e9'
    obtain ⟨a10, e10, -, z10⟩ := DataW.trod_int Tryd.underlying26 g10
    simp [Lit.wf, IntKind.min, IntKind.max, IntKind.signed, IntKind.bits] at e10 z10
    subst e10
    exact ⟨⟨a0, a1, a2, a3, a4, a5, a6, a7, a8, a9, a10⟩, rfl, ⟨⟨by simpa using z0.1, by simpa using z0.2⟩, z1, ⟨by simpa using z2.1, by simpa using z2.2⟩, ⟨by simpa using z3.1, by simpa using z3.2⟩, ⟨by simpa using z4.1, by simpa using z4.2⟩, z5, ⟨by simpa using z6.1, by simpa using z6.2⟩, ⟨by simpa using z7.1, by simpa using z7.2⟩, ⟨by simpa using z8.1, by simpa using z8.2⟩, z9, ⟨by simpa using z10.1, by simpa using z10.2⟩⟩⟩
theorem open_step {H : Type} {enc : TypeId × Value → H} {w : World} {base : Nat} {spare : Nat → Bool} {held : Bool} {r : Reach} {b0 : Nat} {v : Value} {d : DataW H} {p : List MemPlace} (hv : Value.okWide Tryd.prog w r b0 41 v) (h : DataW.Trod enc Tryd.prog w base spare held 41 v d p) : ∃ a : St, v = .agg a.cs.toArray ∧ a.wf w := by
  obtain ⟨cs, rfl, hsz⟩ := okWide_struct Tryd.underlying41 hv
  obtain ⟨l⟩ := cs
  have hl : l.length = 23 := hsz.trans (by kernel_rfl)
  obtain ⟨fuel, hf⟩ := h
  have hf' : DataW.trod enc Tryd.prog w base spare held fuel 41 l = some (d, p) := by
    match l, hl with
    | [c0, c1, c2, c3, c4, c5, c6, c7, c8, c9, c10, c11, c12, c13, c14, c15, c16, c17, c18, c19, c20, c21, c22], _ => exact hf
  obtain ⟨a, rfl, ha⟩ := trod_St hf' hl
  exact ⟨a, rfl, ha⟩
end Go.Proofs.YthfdhggcnkgjfaaDoor
