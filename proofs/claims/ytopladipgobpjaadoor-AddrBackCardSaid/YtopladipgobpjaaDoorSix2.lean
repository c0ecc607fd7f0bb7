/-
  addr.Parse6: what its run asks for. No condition.
-/
import Derived.Test.YtopladipgobpjaaDoorSix1
import Derived.Test.YtopladipgobpjaaDoorPlainS
namespace Go.Proofs.YtopladipgobpjaaDoor
open Go.Fm
def unI (l : List Value) : List Int := l.map fun v => match v with
  | .int _ n => n
  | _ => 0
def rmI (n gap : Nat) : Int := 8 - (n : Int) - (if gap = 0 then 0 else 1)
def mdB (n gap : Nat) : Bool := if gap = 0 then decide (n = 6) else decide (n ≤ 5)
def oA (g : List Int) (part : List UInt8) (gap : Nat) (colon first : Bool) (dots : List Int) (dotted : Bool) : Bool := (addr6 ⟨g, part, gap, colon, first, dots, dotted⟩).isSome
def byteAt (l : List Int) (i : Nat) : Int := if i % 2 = 0 then l.getD (i / 2) 0 / 256 else l.getD (i / 2) 0 % 256
def bA (g : List Int) (part : List UInt8) (gap : Nat) (colon first : Bool) (dots : List Int) (dotted : Bool) (i : Nat) : Int := byteAt ((addr6 ⟨g, part, gap, colon, first, dots, dotted⟩).getD []) i
abbrev zA : AObj := .tcells [.int .u8 0, .int .u8 0, .int .u8 0, .int .u8 0, .int .u8 0, .int .u8 0, .int .u8 0, .int .u8 0, .int .u8 0, .int .u8 0, .int .u8 0, .int .u8 0, .int .u8 0, .int .u8 0, .int .u8 0, .int .u8 0] 31 (some 0)
abbrev zG : Value := .agg ⟨[.int .u8 0, .int .u8 0, .int .u8 0, .int .u8 0, .int .u8 0, .int .u8 0, .int .u8 0, .int .u8 0, .int .u8 0, .int .u8 0, .int .u8 0, .int .u8 0, .int .u8 0, .int .u8 0, .int .u8 0, .int .u8 0]⟩
abbrev zN : AObj := .tcells [.int .i64 0] 3 (some 0)
abbrev bG (g : List Int) (p : List UInt8) (gap : Nat) (c f : Bool) (ds : List Int) (d : Bool) : Value := .agg ⟨[.int .u8 (bA g p gap c f ds d 0), .int .u8 (bA g p gap c f ds d 1), .int .u8 (bA g p gap c f ds d 2), .int .u8 (bA g p gap c f ds d 3), .int .u8 (bA g p gap c f ds d 4), .int .u8 (bA g p gap c f ds d 5), .int .u8 (bA g p gap c f ds d 6), .int .u8 (bA g p gap c f ds d 7), .int .u8 (bA g p gap c f ds d 8), .int .u8 (bA g p gap c f ds d 9), .int .u8 (bA g p gap c f ds d 10), .int .u8 (bA g p gap c f ds d 11), .int .u8 (bA g p gap c f ds d 12), .int .u8 (bA g p gap c f ds d 13), .int .u8 (bA g p gap c f ds d 14), .int .u8 (bA g p gap c f ds d 15)]⟩
abbrev mkA (g : List Int) (p : List UInt8) (gap : Nat) (c f : Bool) (ds : List Int) (d : Bool) : Value := .tuple ⟨[bG g p gap c f ds d, .bool (oA g p gap c f ds d)]⟩
abbrev zE : AObj := .tcells [.int .i64 0] 24 (some 0)
structure S6 where
  i : Nat
  g : List Int
  part : List UInt8
  gap : Nat
  dots : List Int
  d : Int
def m6 (l : List UInt8) (s : S6) : Nat := l.length - s.i
def q60 (l : List UInt8) (s : S6) : Prop × St := (sOK l s.i ⟨[], s.part, s.gap, false, false, [], false⟩, ⟨[(34, .pointer (some ⟨6, 0, none⟩)), (6, .pointer (some ⟨5, 0, none⟩)), (5, .string (bs l)), (4, .pointer (some ⟨4, 0, none⟩)), (0, .pointer (some ⟨3, 0, none⟩)), (1, .int .u8 0)], [],
  [zA, zN, zE, .cells [.string (bs l), .int .i64 0] false, zA, .cells [.string (bs l), .slice none 0 0, .string (bs s.part), .int .i64 s.gap, .bool false, .bool false, .slice none 0 0, .bool false] false, .strIter (bs l) s.i], .norm⟩)
def q61 (l : List UInt8) (s : S6) : Prop × St := (sOK l s.i ⟨[], [], 0, false, true, [], false⟩, ⟨[(34, .pointer (some ⟨6, 0, none⟩)), (6, .pointer (some ⟨5, 0, none⟩)), (5, .string (bs l)), (4, .pointer (some ⟨4, 0, none⟩)), (0, .pointer (some ⟨3, 0, none⟩)), (1, .int .u8 0)], [],
  [zA, zN, zE, .cells [.string (bs l), .int .i64 0] false, zA, .cells [.string (bs l), .slice none 0 0, .string (bs []), .int .i64 0, .bool false, .bool true, .slice none 0 0, .bool false] false, .strIter (bs l) s.i], .norm⟩)
def q62 (l : List UInt8) (s : S6) : Prop × St := (sOK l s.i ⟨s.g, s.part, s.gap, false, false, [], false⟩ ∧ s.g ≠ [], ⟨[(34, .pointer (some ⟨6, 0, none⟩)), (6, .pointer (some ⟨5, 0, none⟩)), (5, .string (bs l)), (4, .pointer (some ⟨4, 0, none⟩)), (0, .pointer (some ⟨3, 0, none⟩)), (1, .int .u8 0)], [],
  [zA, zN, zE, .cells [.string (bs l), .int .i64 0] false, zA, .cells [.string (bs l), .slice (some ⟨7, 0, some 1⟩) s.g.length s.g.length, .string (bs s.part), .int .i64 s.gap, .bool false, .bool false, .slice none 0 0, .bool false] false, .strIter (bs l) s.i, .tcells (ic s.g) 3 (some 0)], .norm⟩)
def q63 (l : List UInt8) (s : S6) : Prop × St := (sOK l s.i ⟨s.g, [], s.gap, true, false, [], false⟩, ⟨[(34, .pointer (some ⟨6, 0, none⟩)), (6, .pointer (some ⟨5, 0, none⟩)), (5, .string (bs l)), (4, .pointer (some ⟨4, 0, none⟩)), (0, .pointer (some ⟨3, 0, none⟩)), (1, .int .u8 0)], [],
  [zA, zN, zE, .cells [.string (bs l), .int .i64 0] false, zA, .cells [.string (bs l), .slice (some ⟨7, 0, some 1⟩) s.g.length s.g.length, .string (bs []), .int .i64 s.gap, .bool true, .bool false, .slice none 0 0, .bool false] false, .strIter (bs l) s.i, .tcells (ic s.g) 3 (some 0)], .norm⟩)
def q64 (l : List UInt8) (s : S6) : Prop × St := (sOK l s.i ⟨[], s.part, s.gap, false, false, [s.d], true⟩, ⟨[(34, .pointer (some ⟨6, 0, none⟩)), (6, .pointer (some ⟨5, 0, none⟩)), (5, .string (bs l)), (4, .pointer (some ⟨4, 0, none⟩)), (0, .pointer (some ⟨3, 0, none⟩)), (1, .int .u8 0)], [],
  [zA, zN, zE, .cells [.string (bs l), .int .i64 0] false, zA, .cells [.string (bs l), .slice none 0 0, .string (bs s.part), .int .i64 s.gap, .bool false, .bool false, .slice (some ⟨7, 0, none⟩) 1 1, .bool true] false, .strIter (bs l) s.i, .tcells [.int .i64 s.d] 3 (some 0)], .norm⟩)
def q65 (l : List UInt8) (s : S6) : Prop × St := (sOK l s.i ⟨s.g, s.part, s.gap, false, false, [s.d], true⟩, ⟨[(34, .pointer (some ⟨6, 0, none⟩)), (6, .pointer (some ⟨5, 0, none⟩)), (5, .string (bs l)), (4, .pointer (some ⟨4, 0, none⟩)), (0, .pointer (some ⟨3, 0, none⟩)), (1, .int .u8 0)], [],
  [zA, zN, zE, .cells [.string (bs l), .int .i64 0] false, zA, .cells [.string (bs l), .slice (some ⟨7, 0, some 1⟩) s.g.length s.g.length, .string (bs s.part), .int .i64 s.gap, .bool false, .bool false, .slice (some ⟨8, 0, none⟩) 1 1, .bool true] false, .strIter (bs l) s.i, .tcells (ic s.g) 3 (some 0), .tcells [.int .i64 s.d] 3 (some 0)], .norm⟩)
def q66 (l : List UInt8) (s : S6) : Prop × St := (sOK l s.i ⟨[], s.part, s.gap, false, false, s.dots, true⟩, ⟨[(34, .pointer (some ⟨6, 0, none⟩)), (6, .pointer (some ⟨5, 0, none⟩)), (5, .string (bs l)), (4, .pointer (some ⟨4, 0, none⟩)), (0, .pointer (some ⟨3, 0, none⟩)), (1, .int .u8 0)], [],
  [zA, zN, zE, .cells [.string (bs l), .int .i64 0] false, zA, .cells [.string (bs l), .slice none 0 0, .string (bs s.part), .int .i64 s.gap, .bool false, .bool false, .slice (some ⟨7, 0, some 1⟩) s.dots.length s.dots.length, .bool true] false, .strIter (bs l) s.i, .tcells (ic s.dots) 3 (some 0)], .norm⟩)
def q67 (l : List UInt8) (s : S6) : Prop × St := (sOK l s.i ⟨s.g, s.part, s.gap, false, false, s.dots, true⟩, ⟨[(34, .pointer (some ⟨6, 0, none⟩)), (6, .pointer (some ⟨5, 0, none⟩)), (5, .string (bs l)), (4, .pointer (some ⟨4, 0, none⟩)), (0, .pointer (some ⟨3, 0, none⟩)), (1, .int .u8 0)], [],
  [zA, zN, zE, .cells [.string (bs l), .int .i64 0] false, zA, .cells [.string (bs l), .slice (some ⟨7, 0, some 1⟩) s.g.length s.g.length, .string (bs s.part), .int .i64 s.gap, .bool false, .bool false, .slice (some ⟨8, 0, some 1⟩) s.dots.length s.dots.length, .bool true] false, .strIter (bs l) s.i, .tcells (ic s.g) 3 (some 0), .tcells (ic s.dots) 3 (some 0)], .norm⟩)
abbrev cph0 (l : List UInt8) (i1 : S6) (y2 : Nat × Nat) : AHeap := [zA, zN, zE, .cells [(.string (bs (l))), (.int .i64 0)] false, zA, .cells [(.string (bs (l))), (.slice (some ⟨7, 0, (some 1)⟩) i1.g.length i1.g.length), (.string (bs (i1.part))), (.int .i64 ((i1.gap : Nat) : Int)), (.bool false), (.bool false), (.slice none 0 0), (.bool false)] false, AObj.strIter (bs l) (i1.i + y2.snd), .tcells (ic i1.g) 3 (some 0)]
abbrev cph1 (l : List UInt8) (i1 : S6) (y2 : Nat × Nat) : AHeap := [zA, zN, zE, .cells [(.string (bs (l))), (.int .i64 0)] false, zA, .cells [(.string (bs (l))), (.slice (some ⟨7, 0, (some 1)⟩) i1.g.length i1.g.length), (.string (bs ([]))), (.int .i64 ((i1.gap : Nat) : Int)), (.bool true), (.bool false), (.slice none 0 0), (.bool false)] false, AObj.strIter (bs l) (i1.i + y2.snd), .tcells (ic i1.g) 3 (some 0)]
abbrev cph2 (l : List UInt8) (i1 : S6) (y2 : Nat × Nat) : AHeap := [zA, zN, zE, .cells [(.string (bs (l))), (.int .i64 0)] false, zA, .cells [(.string (bs (l))), (.slice none 0 0), (.string (bs (i1.part))), (.int .i64 ((i1.gap : Nat) : Int)), (.bool false), (.bool false), (.slice none 0 0), (.bool false)] false, AObj.strIter (bs l) (i1.i + y2.snd)]
abbrev cph3 (l : List UInt8) (i1 : S6) (y2 : Nat × Nat) : AHeap := [zA, zN, zE, .cells [(.string (bs (l))), (.int .i64 0)] false, zA, .cells [(.string (bs (l))), (.slice (some ⟨7, 0, (some 1)⟩) i1.g.length i1.g.length), (.string (bs (i1.part))), (.int .i64 ((i1.gap : Nat) : Int)), (.bool false), (.bool false), (.slice (some ⟨8, 0, (some 1)⟩) i1.dots.length i1.dots.length), (.bool true)] false, AObj.strIter (bs l) (i1.i + y2.snd), .tcells (ic i1.g) 3 (some 0), .tcells (ic i1.dots) 3 (some 0)]
abbrev cph4 (l : List UInt8) (i1 : S6) (y2 : Nat × Nat) : AHeap := [zA, zN, zE, .cells [(.string (bs (l))), (.int .i64 0)] false, zA, .cells [(.string (bs (l))), (.slice (some ⟨7, 0, (some 1)⟩) i1.g.length i1.g.length), (.string (bs (i1.part))), (.int .i64 ((i1.gap : Nat) : Int)), (.bool false), (.bool false), (.slice (some ⟨8, 0, none⟩) 1 1), (.bool true)] false, AObj.strIter (bs l) (i1.i + y2.snd), .tcells (ic i1.g) 3 (some 0), .tcells [(.int .i64 i1.d)] 3 (some 0)]
abbrev cph5 (l : List UInt8) (i1 : S6) (y2 : Nat × Nat) : AHeap := [zA, zN, zE, .cells [(.string (bs (l))), (.int .i64 0)] false, zA, .cells [(.string (bs (l))), (.slice none 0 0), (.string (bs (i1.part))), (.int .i64 ((i1.gap : Nat) : Int)), (.bool false), (.bool false), (.slice (some ⟨7, 0, (some 1)⟩) i1.dots.length i1.dots.length), (.bool true)] false, AObj.strIter (bs l) (i1.i + y2.snd), .tcells (ic i1.dots) 3 (some 0)]
abbrev cph6 (l : List UInt8) (i1 : S6) : AHeap := [zA, zN, zE, .cells [(.string (bs (l))), (.int .i64 0)] false, zA, .cells [(.string (bs (l))), (.slice (some ⟨7, 0, (some 1)⟩) i1.g.length i1.g.length), (.string (bs (i1.part))), (.int .i64 ((i1.gap : Nat) : Int)), (.bool false), (.bool false), (.slice (some ⟨8, 0, (some 1)⟩) i1.dots.length i1.dots.length), (.bool true)] false, AObj.strIter (bs l) i1.i, .tcells (ic i1.g) 3 (some 0), .tcells (ic i1.dots) 3 (some 0)]
abbrev cph7 (l : List UInt8) (i1 : S6) : AHeap := [zA, zN, zE, .cells [(.string (bs (l))), (.int .i64 0)] false, zA, .cells [(.string (bs (l))), (.slice none 0 0), (.string (bs (i1.part))), (.int .i64 ((i1.gap : Nat) : Int)), (.bool false), (.bool false), (.slice none 0 0), (.bool false)] false, AObj.strIter (bs l) i1.i]
abbrev cph8 (l : List UInt8) (i1 : S6) (y2 : Nat × Nat) : AHeap := [zA, zN, zE, .cells [(.string (bs (l))), (.int .i64 0)] false, zA, .cells [(.string (bs (l))), (.slice none 0 0), (.string (bs (i1.part))), (.int .i64 ((i1.gap : Nat) : Int)), (.bool false), (.bool false), (.slice (some ⟨7, 0, none⟩) 1 1), (.bool true)] false, AObj.strIter (bs l) (i1.i + y2.snd), .tcells [(.int .i64 i1.d)] 3 (some 0)]
abbrev cph9 (l : List UInt8) (i1 : S6) : AHeap := [zA, zN, zE, .cells [(.string (bs (l))), (.int .i64 0)] false, zA, .cells [(.string (bs (l))), (.slice (some ⟨7, 0, (some 1)⟩) i1.g.length i1.g.length), (.string (bs (i1.part))), (.int .i64 ((i1.gap : Nat) : Int)), (.bool false), (.bool false), (.slice (some ⟨8, 0, none⟩) 1 1), (.bool true)] false, AObj.strIter (bs l) i1.i, .tcells (ic i1.g) 3 (some 0), .tcells [(.int .i64 i1.d)] 3 (some 0)]
abbrev cph10 (l : List UInt8) (i1 : S6) : AHeap := [zA, zN, zE, .cells [(.string (bs (l))), (.int .i64 0)] false, zA, .cells [(.string (bs (l))), (.slice none 0 0), (.string (bs ([]))), (.int .i64 0), (.bool false), (.bool true), (.slice none 0 0), (.bool false)] false, AObj.strIter (bs l) i1.i]
abbrev cph11 (l : List UInt8) (i1 : S6) : AHeap := [zA, zN, zE, .cells [(.string (bs (l))), (.int .i64 0)] false, zA, .cells [(.string (bs (l))), (.slice none 0 0), (.string (bs (i1.part))), (.int .i64 ((i1.gap : Nat) : Int)), (.bool false), (.bool false), (.slice (some ⟨7, 0, (some 1)⟩) i1.dots.length i1.dots.length), (.bool true)] false, AObj.strIter (bs l) i1.i, .tcells (ic i1.dots) 3 (some 0)]
abbrev cph12 (l : List UInt8) (i1 : S6) : AHeap := [zA, zN, zE, .cells [(.string (bs (l))), (.int .i64 0)] false, zA, .cells [(.string (bs (l))), (.slice (some ⟨7, 0, (some 1)⟩) i1.g.length i1.g.length), (.string (bs (i1.part))), (.int .i64 ((i1.gap : Nat) : Int)), (.bool false), (.bool false), (.slice none 0 0), (.bool false)] false, AObj.strIter (bs l) i1.i, .tcells (ic i1.g) 3 (some 0)]
abbrev cph13 (l : List UInt8) (i1 : S6) : AHeap := [zA, zN, zE, .cells [(.string (bs (l))), (.int .i64 0)] false, zA, .cells [(.string (bs (l))), (.slice (some ⟨7, 0, (some 1)⟩) i1.g.length i1.g.length), (.string (bs ([]))), (.int .i64 ((i1.gap : Nat) : Int)), (.bool true), (.bool false), (.slice none 0 0), (.bool false)] false, AObj.strIter (bs l) i1.i, .tcells (ic i1.g) 3 (some 0)]
abbrev cph14 (l : List UInt8) (i1 : S6) : AHeap := [zA, zN, zE, .cells [(.string (bs (l))), (.int .i64 0)] false, zA, .cells [(.string (bs (l))), (.slice none 0 0), (.string (bs (i1.part))), (.int .i64 ((i1.gap : Nat) : Int)), (.bool false), (.bool false), (.slice (some ⟨7, 0, none⟩) 1 1), (.bool true)] false, AObj.strIter (bs l) i1.i, .tcells [(.int .i64 i1.d)] 3 (some 0)]
abbrev cph15 (l : List UInt8) (i1 : S6) (y2 : Nat × Nat) : AHeap := [zA, zN, zE, .cells [(.string (bs (l))), (.int .i64 0)] false, zA, .cells [(.string (bs (l))), (.slice (some ⟨9, 0, (some 1)⟩) (i1.g.length + 1) (i1.g.length + 1)), (.string (bs ([]))), (.int .i64 ((i1.gap : Nat) : Int)), (.bool true), (.bool false), (.slice none 0 0), (.bool false)] false, AObj.strIter (bs l) (i1.i + y2.snd), .dead, .tcells [(.int .i64 (valB 16 i1.part))] 3 (some 0), .tcells (ic (i1.g ++ [valB 16 i1.part])) 3 (some 0)]
abbrev cph16 (l : List UInt8) (i1 : S6) (y2 : Nat × Nat) : AHeap := [zA, zN, zE, .cells [(.string (bs (l))), (.int .i64 0)] false, zA, .cells [(.string (bs (l))), (.slice (some ⟨8, 0, (some 1)⟩) 1 1), (.string (bs ([]))), (.int .i64 ((i1.gap : Nat) : Int)), (.bool true), (.bool false), (.slice none 0 0), (.bool false)] false, AObj.strIter (bs l) (i1.i + y2.snd), .tcells [(.int .i64 (valB 16 i1.part))] 3 (some 0), .tcells [(.int .i64 (valB 16 i1.part))] 3 (some 0)]
abbrev cph17 (l : List UInt8) (i1 : S6) : AHeap := [zA, zN, zE, .cells [(.string (bs (l))), (.int .i64 0)] false, zA, .cells [(.string (bs (l))), (.slice (some ⟨7, 0, (some 1)⟩) i1.g.length i1.g.length), (.string (bs (i1.part))), (.int .i64 ((i1.gap : Nat) : Int)), (.bool false), (.bool false), (.slice (some ⟨8, 0, (some 1)⟩) i1.dots.length i1.dots.length), (.bool true)] false, AObj.strIter (bs l) i1.i, .dead, .dead]
abbrev cph18 (l : List UInt8) (i1 : S6) : AHeap := [zA, zN, zE, .cells [(.string (bs (l))), (.int .i64 0)] false, zA, .cells [(.string (bs (l))), (.slice (some ⟨7, 0, (some 1)⟩) i1.g.length i1.g.length), (.string (bs (i1.part))), (.int .i64 ((i1.gap : Nat) : Int)), (.bool false), (.bool false), (.slice (some ⟨8, 0, none⟩) 1 1), (.bool true)] false, AObj.strIter (bs l) i1.i, .dead, .dead]
abbrev cph19 (l : List UInt8) (i1 : S6) (z6 : Int) (y2 : Nat × Nat) : AHeap := [zA, zN, zE, .cells [(.string (bs (l))), (.int .i64 0)] false, zA, .cells [(.string (bs (l))), (.slice (some ⟨7, 0, (some 1)⟩) i1.g.length i1.g.length), (.string (bs ([]))), (.int .i64 z6), (.bool false), (.bool false), (.slice none 0 0), (.bool false)] false, AObj.strIter (bs l) (i1.i + y2.snd), .tcells (ic i1.g) 3 (some 0)]
abbrev cph20 (l : List UInt8) (i1 : S6) : AHeap := [zA, zN, zE, .cells [(.string (bs (l))), (.int .i64 0)] false, zA, .cells [(.string (bs (l))), (.slice none 0 0), (.string (bs (i1.part))), (.int .i64 ((i1.gap : Nat) : Int)), (.bool false), (.bool false), (.slice (some ⟨7, 0, (some 1)⟩) i1.dots.length i1.dots.length), (.bool true)] false, AObj.strIter (bs l) i1.i, .dead]
abbrev cph21 (l : List UInt8) (i1 : S6) : AHeap := [zA, zN, zE, .cells [(.string (bs (l))), (.int .i64 0)] false, zA, .cells [(.string (bs (l))), (.slice (some ⟨7, 0, (some 1)⟩) i1.g.length i1.g.length), (.string (bs (i1.part))), (.int .i64 ((i1.gap : Nat) : Int)), (.bool false), (.bool false), (.slice none 0 0), (.bool false)] false, AObj.strIter (bs l) i1.i, .dead]
abbrev cph22 (l : List UInt8) (i1 : S6) : AHeap := [zA, zN, zE, .cells [(.string (bs (l))), (.int .i64 0)] false, zA, .cells [(.string (bs (l))), (.slice (some ⟨7, 0, (some 1)⟩) i1.g.length i1.g.length), (.string (bs ([]))), (.int .i64 ((i1.gap : Nat) : Int)), (.bool true), (.bool false), (.slice none 0 0), (.bool false)] false, AObj.strIter (bs l) i1.i, .dead]
abbrev cph23 (l : List UInt8) (i1 : S6) : AHeap := [zA, zN, zE, .cells [(.string (bs (l))), (.int .i64 0)] false, zA, .cells [(.string (bs (l))), (.slice none 0 0), (.string (bs (i1.part))), (.int .i64 ((i1.gap : Nat) : Int)), (.bool false), (.bool false), (.slice (some ⟨7, 0, none⟩) 1 1), (.bool true)] false, AObj.strIter (bs l) i1.i, .dead]
abbrev cph24 (l : List UInt8) (i1 : S6) (y2 : Nat × Nat) : AHeap := [zA, zN, zE, .cells [(.string (bs (l))), (.int .i64 0)] false, zA, .cells [(.string (bs (l))), (.slice (some ⟨7, 0, (some 1)⟩) i1.g.length i1.g.length), (.string (bs (i1.part))), (.int .i64 ((i1.gap : Nat) : Int)), (.bool false), (.bool false), (.slice (some ⟨8, 0, (some 1)⟩) i1.dots.length i1.dots.length), (.bool true)] false, AObj.strIter (bs l) (i1.i + y2.snd), .tcells (ic i1.g) 3 (some 0), .dead, .tcells [(.int .i64 (valB 10 i1.part))] 3 (some 0), .tcells (ic (i1.dots ++ [valB 10 i1.part])) 3 (some 0)]
abbrev cph25 (l : List UInt8) (i1 : S6) (y2 : Nat × Nat) : AHeap := [zA, zN, zE, .cells [(.string (bs (l))), (.int .i64 0)] false, zA, .cells [(.string (bs (l))), (.slice none 0 0), (.string (bs ([]))), (.int .i64 0), (.bool false), (.bool true), (.slice none 0 0), (.bool false)] false, AObj.strIter (bs l) (i1.i + y2.snd)]
abbrev cph26 (l : List UInt8) (i1 : S6) (y2 : Nat × Nat) : AHeap := [zA, zN, zE, .cells [(.string (bs (l))), (.int .i64 0)] false, zA, .cells [(.string (bs (l))), (.slice none 0 0), (.string (bs (i1.part))), (.int .i64 ((i1.gap : Nat) : Int)), (.bool false), (.bool false), (.slice (some ⟨7, 0, (some 1)⟩) i1.dots.length i1.dots.length), (.bool true)] false, AObj.strIter (bs l) (i1.i + y2.snd), .dead, .tcells [(.int .i64 (valB 10 i1.part))] 3 (some 0), .tcells (ic (i1.dots ++ [valB 10 i1.part])) 3 (some 0)]
abbrev cph27 (l : List UInt8) (i1 : S6) (y2 : Nat × Nat) : AHeap := [zA, zN, zE, .cells [(.string (bs (l))), (.int .i64 0)] false, zA, .cells [(.string (bs (l))), (.slice (some ⟨9, 0, (some 1)⟩) (i1.g.length + 1) (i1.g.length + 1)), (.string (bs ([]))), (.int .i64 ((i1.gap : Nat) : Int)), (.bool false), (.bool false), (.slice none 0 0), (.bool false)] false, AObj.strIter (bs l) (i1.i + y2.snd), .dead, .tcells [(.int .i64 (valB 16 i1.part))] 3 (some 0), .tcells (ic (i1.g ++ [valB 16 i1.part])) 3 (some 0)]
abbrev cph28 (l : List UInt8) (i1 : S6) (y2 : Nat × Nat) : AHeap := [zA, zN, zE, .cells [(.string (bs (l))), (.int .i64 0)] false, zA, .cells [(.string (bs (l))), (.slice (some ⟨7, 0, (some 1)⟩) i1.g.length i1.g.length), (.string (bs (i1.part))), (.int .i64 ((i1.gap : Nat) : Int)), (.bool false), (.bool false), (.slice none 0 0), (.bool false)] false, AObj.strIter (bs l) (i1.i + y2.snd), .dead, .tcells [(.int .i64 (valB 16 i1.part))] 3 (some 0), .tcells (ic (i1.g ++ [valB 16 i1.part])) 3 (some 0)]
abbrev cph29 (l : List UInt8) (i1 : S6) (y2 : Nat × Nat) : AHeap := [zA, zN, zE, .cells [(.string (bs (l))), (.int .i64 0)] false, zA, .cells [(.string (bs (l))), (.slice (some ⟨8, 0, (some 1)⟩) 1 1), (.string (bs ([]))), (.int .i64 ((i1.gap : Nat) : Int)), (.bool false), (.bool false), (.slice none 0 0), (.bool false)] false, AObj.strIter (bs l) (i1.i + y2.snd), .tcells [(.int .i64 (valB 16 i1.part))] 3 (some 0), .tcells [(.int .i64 (valB 16 i1.part))] 3 (some 0)]
abbrev cph30 (l : List UInt8) (i1 : S6) (y2 : Nat × Nat) : AHeap := [zA, zN, zE, .cells [(.string (bs (l))), (.int .i64 0)] false, zA, .cells [(.string (bs (l))), (.slice (some ⟨7, 0, (some 1)⟩) i1.g.length i1.g.length), (.string (bs (i1.part))), (.int .i64 ((i1.gap : Nat) : Int)), (.bool false), (.bool false), (.slice none 0 0), (.bool true)] false, AObj.strIter (bs l) (i1.i + y2.snd), .tcells (ic i1.g) 3 (some 0)]
abbrev cph31 (l : List UInt8) (i1 : S6) (y2 : Nat × Nat) : AHeap := [zA, zN, zE, .cells [(.string (bs (l))), (.int .i64 0)] false, zA, .cells [(.string (bs (l))), (.slice (some ⟨7, 0, (some 1)⟩) i1.g.length i1.g.length), (.string (bs ([]))), (.int .i64 ((i1.gap : Nat) : Int)), (.bool true), (.bool false), (.slice none 0 0), (.bool true)] false, AObj.strIter (bs l) (i1.i + y2.snd), .tcells (ic i1.g) 3 (some 0)]
abbrev cph32 (l : List UInt8) (i1 : S6) (y2 : Nat × Nat) : AHeap := [zA, zN, zE, .cells [(.string (bs (l))), (.int .i64 0)] false, zA, .cells [(.string (bs (l))), (.slice none 0 0), (.string (bs (i1.part))), (.int .i64 ((i1.gap : Nat) : Int)), (.bool false), (.bool false), (.slice none 0 0), (.bool true)] false, AObj.strIter (bs l) (i1.i + y2.snd)]
abbrev cpf0 (l : List UInt8) (i1 : S6) (y2 : Nat × Nat) : Prop := someN [] 4 (fun a' => (m6 l) a' < (m6 l) i1) ⟨[(34, (.pointer (some ⟨6, 0, none⟩))), (6, (.pointer (some ⟨5, 0, none⟩))), (5, (.string (bs (l)))), (4, (.pointer (some ⟨4, 0, none⟩))), (0, (.pointer (some ⟨3, 0, none⟩))), (1, (.int .u8 0))], [], (cph16 l i1 y2), .norm⟩ [(q60 l), (q61 l), (q62 l), (q63 l), (q64 l), (q65 l), (q66 l), (q67 l)]
abbrev cpf1 (l : List UInt8) (i1 : S6) (y2 : Nat × Nat) : Prop := someN [] 4 (fun a' => (m6 l) a' < (m6 l) i1) ⟨[(34, (.pointer (some ⟨6, 0, none⟩))), (6, (.pointer (some ⟨5, 0, none⟩))), (5, (.string (bs (l)))), (4, (.pointer (some ⟨4, 0, none⟩))), (0, (.pointer (some ⟨3, 0, none⟩))), (1, (.int .u8 0))], [], (cph15 l i1 y2), .norm⟩ [(q60 l), (q61 l), (q62 l), (q63 l), (q64 l), (q65 l), (q66 l), (q67 l)]
abbrev cpf2 (l : List UInt8) (i1 : S6) (y2 : Nat × Nat) : Prop := (((i1.gap : Nat) : Int) == 0) = true →
∀ z5 : Int, z5 = (((i1.g.length : Nat) : Int)) →
∀ z6 : Int, z6 = (IntKind.i64.wrap (z5 + 1)) →
(someN [] 4 (fun a' => (m6 l) a' < (m6 l) i1) ⟨[(34, (.pointer (some ⟨6, 0, none⟩))), (6, (.pointer (some ⟨5, 0, none⟩))), (5, (.string (bs (l)))), (4, (.pointer (some ⟨4, 0, none⟩))), (0, (.pointer (some ⟨3, 0, none⟩))), (1, (.int .u8 0))], [], (cph19 l i1 z6 y2), .norm⟩ [(q60 l), (q61 l), (q62 l), (q63 l), (q64 l), (q65 l), (q66 l), (q67 l)])
abbrev cps0 : Scr := .skip 11 (.all (fun _z2 => .skip 0 (.all (fun _z3 => .skip 3 (.ask (.skip 15 (.all (fun _z4 => .skip 0 (.ask (.go) (.go))))) (.go))))))
abbrev cps1 (i1 : S6) : Scr := .skip 7 (.all (fun z5 => .skip 0 (.val (.string (bs ((Go.Utf8.encode z5).data.toList))) (.skip 0 (.val (.string (bs (i1.part ++ (Go.Utf8.encode z5).data.toList))) (.go))))))
abbrev cps2 (i1 : S6) : Scr := .skip 11 (.all (fun _z4 => .skip 0 (.ask (.skip 6 (.all (fun z5 => .skip 0 (.val (.string (bs ((Go.Utf8.encode z5).data.toList))) (.skip 0 (.val (.string (bs (i1.part ++ (Go.Utf8.encode z5).data.toList))) (.go))))))) (.skip 9 (.all (fun _z5 => .go))))))
theorem run_parse6 (l : List UInt8) (Q : Res → Prop) : (((aSlice Tryd.prog 9 (.string (bs (l))) (some (.int .i64 0)) none none = some (.string (bs (List.drop 0 l)))) ∧
((someN [] 4 (fun _ => True) ⟨[(34, (.pointer (some ⟨6, 0, none⟩))), (6, (.pointer (some ⟨5, 0, none⟩))), (5, (.string (bs (List.drop 0 l)))), (4, (.pointer (some ⟨4, 0, none⟩))), (0, (.pointer (some ⟨3, 0, none⟩))), (1, (.int .u8 0))], [], [zA, zN, zE, .cells [(.string (bs (l))), (.int .i64 0)] false, zA, .cells [(.string (bs (List.drop 0 l))), (.slice none 0 0), (.string (bs ([]))), (.int .i64 0), (.bool false), (.bool false), (.slice none 0 0), (.bool false)] false, AObj.strIter (bs (List.drop 0 l)) 0], .norm⟩ [(q60 l), (q61 l), (q62 l), (q63 l), (q64 l), (q65 l), (q66 l), (q67 l)]) ∧
(∀ i1, (q60 l i1).fst →
(((decide (i1.i < l.length)) = true →
((∃ y2 : Nat × Nat, aNextStr (.pointer (some ⟨6, 0, none⟩)) (cph7 l i1) = some ((.tuple ⟨[(.bool true), (.int .i64 ((i1.i : Nat) : Int)), (.int .i32 ((y2.fst : Nat) : Int))]⟩), ((cph2 l i1 y2) : AHeap))) ∧
∀ y2 : Nat × Nat, aNextStr (.pointer (some ⟨6, 0, none⟩)) (cph7 l i1) = some ((.tuple ⟨[(.bool true), (.int .i64 ((i1.i : Nat) : Int)), (.int .i32 ((y2.fst : Nat) : Int))]⟩), ((cph2 l i1 y2) : AHeap)) →
((∃ z3 : Int, aIndex Tryd.prog 9 (.string (bs (l))) (.int .i64 ((i1.i : Nat) : Int)) = some (.int .u8 z3)) ∧
∀ z3 : Int, aIndex Tryd.prog 9 (.string (bs (l))) (.int .i64 ((i1.i : Nat) : Int)) = some (.int .u8 z3) →
(((z3 == 58) = true →
(((!(bs i1.part).toList == (bs []).toList) = true →
(SpecK Tryd.prog 101 [(.string (bs (i1.part))), (.int .i64 16)] (cph2 l i1 y2) (.int .i64 (valB 16 i1.part)) ∧
∀ _ : Unit, True →
(((some (.slice none 0 0)) : Option Value) = (some (.slice none 0 0))) ∧
(SpecK Tryd.prog 103 [(.pointer (some ⟨5, 0, none⟩))] (cph29 l i1 y2) (.int .i64 (rmI (0 + 1) (((i1.gap : Nat) : Int)).toNat)) ∧
∀ _ : Unit, True →
(((decide (rmI (0 + 1) (((i1.gap : Nat) : Int)).toNat < 1)) = true →
(((((i1.gap : Nat) : Int) == 0) = true →
(((decide (((i1.gap : Nat) : Int) > 0)) = true →
∀ z4 : Int, z4 = (IntKind.i64.wrap (0 + ((i1.i : Nat) : Int))) →
 Q (.ret (.tuple ⟨[zG, (.int .i64 z4), (.int .i64 20)]⟩))) ∧
((decide (((i1.gap : Nat) : Int) > 0)) = false →
(((((i1.gap : Nat) : Int) == 0) = true →
((cpf0 l i1 y2))) ∧
((((i1.gap : Nat) : Int) == 0) = false →
 False))))) ∧
((((i1.gap : Nat) : Int) == 0) = false →
(((decide (((i1.gap : Nat) : Int) > 0)) = true →
∀ z4 : Int, z4 = (IntKind.i64.wrap (0 + ((i1.i : Nat) : Int))) →
 Q (.ret (.tuple ⟨[zG, (.int .i64 z4), (.int .i64 20)]⟩))) ∧
((decide (((i1.gap : Nat) : Int) > 0)) = false →
(((((i1.gap : Nat) : Int) == 0) = true →
 False) ∧
((((i1.gap : Nat) : Int) == 0) = false →
((cpf0 l i1 y2))))))))) ∧
((decide (rmI (0 + 1) (((i1.gap : Nat) : Int)).toNat < 1)) = false →
(((((i1.gap : Nat) : Int) == 0) = true →
((cpf0 l i1 y2))) ∧
((((i1.gap : Nat) : Int) == 0) = false →
((cpf0 l i1 y2))))))))) ∧
((!(bs i1.part).toList == (bs []).toList) = false →
(((!(bs l).toList == (bs []).toList) = true →
(((((i1.gap : Nat) : Int) == 0) = true →
(someN [] 4 (fun a' => (m6 l) a' < (m6 l) i1) ⟨[(34, (.pointer (some ⟨6, 0, none⟩))), (6, (.pointer (some ⟨5, 0, none⟩))), (5, (.string (bs (l)))), (4, (.pointer (some ⟨4, 0, none⟩))), (0, (.pointer (some ⟨3, 0, none⟩))), (1, (.int .u8 0))], [], [zA, zN, zE, .cells [(.string (bs (l))), (.int .i64 0)] false, zA, .cells [(.string (bs (l))), (.slice none 0 0), (.string (bs (i1.part))), (.int .i64 ((i1.gap : Nat) : Int)), (.bool false), (.bool true), (.slice none 0 0), (.bool false)] false, AObj.strIter (bs l) (i1.i + y2.snd)], .norm⟩ [(q60 l), (q61 l), (q62 l), (q63 l), (q64 l), (q65 l), (q66 l), (q67 l)])) ∧
((((i1.gap : Nat) : Int) == 0) = false →
∀ z4 : Int, z4 = (IntKind.i64.wrap (0 + ((i1.i : Nat) : Int))) →
 Q (.ret (.tuple ⟨[zG, (.int .i64 z4), (.int .i64 20)]⟩))))) ∧
((!(bs l).toList == (bs []).toList) = false →
∀ z4 : Int, z4 = (IntKind.i64.wrap (0 + ((i1.i : Nat) : Int))) →
 Q (.ret (.tuple ⟨[zG, (.int .i64 z4), (.int .i64 20)]⟩))))))) ∧
((z3 == 58) = false →
(((z3 == 46) = true →
(SpecK Tryd.prog 99 [(.string (bs (i1.part)))] (cph2 l i1 y2) (.bool (dec i1.part)) ∧
∀ _ : Unit, True →
(((!dec i1.part) = true →
∀ z4 : Int, z4 = (IntKind.i64.wrap (0 + ((i1.i : Nat) : Int))) →
 Q (.ret (.tuple ⟨[zG, (.int .i64 z4), (.int .i64 20)]⟩))) ∧
((!dec i1.part) = false →
(SpecK Tryd.prog 100 [(.pointer (some ⟨5, 0, none⟩))] (cph2 l i1 y2) (.bool (mdB 0 (((i1.gap : Nat) : Int)).toNat)) ∧
∀ _ : Unit, True →
(((!mdB 0 (((i1.gap : Nat) : Int)).toNat) = true →
∀ z4 : Int, z4 = (IntKind.i64.wrap (0 + ((i1.i : Nat) : Int))) →
 Q (.ret (.tuple ⟨[zG, (.int .i64 z4), (.int .i64 20)]⟩))) ∧
((!mdB 0 (((i1.gap : Nat) : Int)).toNat) = false →
(SpecK Tryd.prog 101 [(.string (bs (i1.part))), (.int .i64 10)] (cph32 l i1 y2) (.int .i64 (valB 10 i1.part)) ∧
∀ _ : Unit, True →
(someN [] 4 (fun a' => (m6 l) a' < (m6 l) i1) ⟨[(34, (.pointer (some ⟨6, 0, none⟩))), (6, (.pointer (some ⟨5, 0, none⟩))), (5, (.string (bs (l)))), (4, (.pointer (some ⟨4, 0, none⟩))), (0, (.pointer (some ⟨3, 0, none⟩))), (1, (.int .u8 0))], [], [zA, zN, zE, .cells [(.string (bs (l))), (.int .i64 0)] false, zA, .cells [(.string (bs (l))), (.slice none 0 0), (.string (bs ([]))), (.int .i64 ((i1.gap : Nat) : Int)), (.bool false), (.bool false), (.slice (some ⟨7, 0, none⟩) 1 1), (.bool true)] false, AObj.strIter (bs l) (i1.i + y2.snd), .tcells [(.int .i64 (valB 10 i1.part))] 3 (some 0)], .norm⟩ [(q60 l), (q61 l), (q62 l), (q63 l), (q64 l), (q65 l), (q66 l), (q67 l)]))))))))) ∧
((z3 == 46) = false →
(SpecK Tryd.prog 102 [(.int .u8 z3)] (cph2 l i1 y2) (.int .i64 (hxI z3)) ∧
∀ _ : Unit, True →
(((decide (hxI z3 < 0)) = true →
∀ z4 : Int, z4 = (IntKind.i64.wrap (0 + ((i1.i : Nat) : Int))) →
 Q (.ret (.tuple ⟨[zG, (.int .i64 z4), (.int .i64 20)]⟩))) ∧
((decide (hxI z3 < 0)) = false →
(SpecK Tryd.prog 103 [(.pointer (some ⟨5, 0, none⟩))] (cph2 l i1 y2) (.int .i64 (rmI 0 (((i1.gap : Nat) : Int)).toNat)) ∧
∀ _ : Unit, True →
(((decide (rmI 0 (((i1.gap : Nat) : Int)).toNat < 1)) = true →
∀ z4 : Int, z4 = (IntKind.i64.wrap (0 + ((i1.i : Nat) : Int))) →
 Q (.ret (.tuple ⟨[zG, (.int .i64 z4), (.int .i64 20)]⟩))) ∧
((decide (rmI 0 (((i1.gap : Nat) : Int)).toNat < 1)) = false →
∀ z4 : Int, z4 = ((((bs i1.part).size : Nat) : Int)) →
(((decide (z4 < 4)) = true →
∀ z5 : Int, z5 = (IntKind.i32.wrap z3) →
(((some (.string (Go.Utf8.encode z5)) : Option Value) = some (.string (bs ((Go.Utf8.encode z5).data.toList)))) ∧
((aBin2 Tryd.prog BinOp.add 9 (Operand.tmp 80) (Operand.tmp 83) (.string (bs (i1.part))) (.string (bs ((Go.Utf8.encode z5).data.toList))) = some (.string (bs (i1.part ++ (Go.Utf8.encode z5).data.toList)))) ∧
(someN [] 4 (fun a' => (m6 l) a' < (m6 l) i1) ⟨[(34, (.pointer (some ⟨6, 0, none⟩))), (6, (.pointer (some ⟨5, 0, none⟩))), (5, (.string (bs (l)))), (4, (.pointer (some ⟨4, 0, none⟩))), (0, (.pointer (some ⟨3, 0, none⟩))), (1, (.int .u8 0))], [], [zA, zN, zE, .cells [(.string (bs (l))), (.int .i64 0)] false, zA, .cells [(.string (bs (l))), (.slice none 0 0), (.string (bs (i1.part ++ (Go.Utf8.encode z5).data.toList))), (.int .i64 ((i1.gap : Nat) : Int)), (.bool false), (.bool false), (.slice none 0 0), (.bool false)] false, AObj.strIter (bs l) (i1.i + y2.snd)], .norm⟩ [(q60 l), (q61 l), (q62 l), (q63 l), (q64 l), (q65 l), (q66 l), (q67 l)])))) ∧
((decide (z4 < 4)) = false →
∀ z5 : Int, z5 = (IntKind.i64.wrap (0 + ((i1.i : Nat) : Int))) →
 Q (.ret (.tuple ⟨[zG, (.int .i64 z5), (.int .i64 20)]⟩))))))))))))))))) ∧
((decide (i1.i < l.length)) = false →
((aNextStr (.pointer (some ⟨6, 0, none⟩)) (cph7 l i1) = some ((.tuple ⟨[(.bool false)]⟩), ((cph7 l i1) : AHeap))) ∧
(SpecC Tryd.prog [] (.fn 86) [(.pointer (some ⟨5, 0, none⟩))] (cph7 l i1) (fun r h' => ((true) = true →
 r = (((.ret (mkA [] i1.part (((i1.gap : Nat) : Int)).toNat Bool.false Bool.false [] Bool.false)), ((cph7 l i1) : AHeap)) : Res × AHeap).1 ∧
 h' = (((.ret (mkA [] i1.part (((i1.gap : Nat) : Int)).toNat Bool.false Bool.false [] Bool.false)), ((cph7 l i1) : AHeap)) : Res × AHeap).2) ∧
((true) = false →
 r = (((.ret .nilIface), ([] : AHeap)) : Res × AHeap).1 ∧
 h' = (((.ret .nilIface), ([] : AHeap)) : Res × AHeap).2)) ∧
(((true) = true →
∀ z2 : Int, z2 = ((((bs l).size : Nat) : Int)) →
∀ z3 : Int, z3 = (IntKind.i64.wrap (0 + z2)) →
(((oA [] i1.part (((i1.gap : Nat) : Int)).toNat Bool.false Bool.false [] Bool.false) = true →
∀ z4 : Int, z4 = ((((bs l).size : Nat) : Int)) →
(((decide (z3 < z4)) = true →
 Q (.ret (.tuple ⟨[zG, (.int .i64 z3), (.int .i64 20)]⟩))) ∧
((decide (z3 < z4)) = false →
 Q (.ret (.tuple ⟨[(bG [] i1.part (((i1.gap : Nat) : Int)).toNat Bool.false Bool.false [] Bool.false), (.int .i64 0), (.int .i64 0)]⟩))))) ∧
((oA [] i1.part (((i1.gap : Nat) : Int)).toNat Bool.false Bool.false [] Bool.false) = false →
 Q (.ret (.tuple ⟨[zG, (.int .i64 z3), (.int .i64 20)]⟩))))) ∧
((true) = false →
 False))))))) ∧
(∀ i1, (q61 l i1).fst →
(((decide (i1.i < l.length)) = true →
((∃ y2 : Nat × Nat, aNextStr (.pointer (some ⟨6, 0, none⟩)) (cph10 l i1) = some ((.tuple ⟨[(.bool true), (.int .i64 ((i1.i : Nat) : Int)), (.int .i32 ((y2.fst : Nat) : Int))]⟩), ((cph25 l i1 y2) : AHeap))) ∧
∀ y2 : Nat × Nat, aNextStr (.pointer (some ⟨6, 0, none⟩)) (cph10 l i1) = some ((.tuple ⟨[(.bool true), (.int .i64 ((i1.i : Nat) : Int)), (.int .i32 ((y2.fst : Nat) : Int))]⟩), ((cph25 l i1 y2) : AHeap)) →
((∃ z3 : Int, aIndex Tryd.prog 9 (.string (bs (l))) (.int .i64 ((i1.i : Nat) : Int)) = some (.int .u8 z3)) ∧
∀ z3 : Int, aIndex Tryd.prog 9 (.string (bs (l))) (.int .i64 ((i1.i : Nat) : Int)) = some (.int .u8 z3) →
(((z3 != 58) = true →
∀ z4 : Int, z4 = (IntKind.i64.wrap (0 + ((i1.i : Nat) : Int))) →
 Q (.ret (.tuple ⟨[zG, (.int .i64 z4), (.int .i64 20)]⟩))) ∧
((z3 != 58) = false →
(someN [] 4 (fun a' => (m6 l) a' < (m6 l) i1) ⟨[(34, (.pointer (some ⟨6, 0, none⟩))), (6, (.pointer (some ⟨5, 0, none⟩))), (5, (.string (bs (l)))), (4, (.pointer (some ⟨4, 0, none⟩))), (0, (.pointer (some ⟨3, 0, none⟩))), (1, (.int .u8 0))], [], [zA, zN, zE, .cells [(.string (bs (l))), (.int .i64 0)] false, zA, .cells [(.string (bs (l))), (.slice none 0 0), (.string (bs ([]))), (.int .i64 1), (.bool false), (.bool false), (.slice none 0 0), (.bool false)] false, AObj.strIter (bs l) (i1.i + y2.snd)], .norm⟩ [(q60 l), (q61 l), (q62 l), (q63 l), (q64 l), (q65 l), (q66 l), (q67 l)])))))) ∧
((decide (i1.i < l.length)) = false →
((aNextStr (.pointer (some ⟨6, 0, none⟩)) (cph10 l i1) = some ((.tuple ⟨[(.bool false)]⟩), ((cph10 l i1) : AHeap))) ∧
(SpecC Tryd.prog [] (.fn 86) [(.pointer (some ⟨5, 0, none⟩))] (cph10 l i1) (fun r h' => ((true) = true →
 r = (((.ret (mkA [] [] (Int.toNat 0) Bool.false Bool.true [] Bool.false)), ((cph10 l i1) : AHeap)) : Res × AHeap).1 ∧
 h' = (((.ret (mkA [] [] (Int.toNat 0) Bool.false Bool.true [] Bool.false)), ((cph10 l i1) : AHeap)) : Res × AHeap).2) ∧
((true) = false →
 r = (((.ret .nilIface), ([] : AHeap)) : Res × AHeap).1 ∧
 h' = (((.ret .nilIface), ([] : AHeap)) : Res × AHeap).2)) ∧
(((true) = true →
∀ z2 : Int, z2 = ((((bs l).size : Nat) : Int)) →
∀ z3 : Int, z3 = (IntKind.i64.wrap (0 + z2)) →
(((oA [] [] (Int.toNat 0) Bool.false Bool.true [] Bool.false) = true →
∀ z4 : Int, z4 = ((((bs l).size : Nat) : Int)) →
(((decide (z3 < z4)) = true →
 Q (.ret (.tuple ⟨[zG, (.int .i64 z3), (.int .i64 20)]⟩))) ∧
((decide (z3 < z4)) = false →
 Q (.ret (.tuple ⟨[(bG [] [] (Int.toNat 0) Bool.false Bool.true [] Bool.false), (.int .i64 0), (.int .i64 0)]⟩))))) ∧
((oA [] [] (Int.toNat 0) Bool.false Bool.true [] Bool.false) = false →
 Q (.ret (.tuple ⟨[zG, (.int .i64 z3), (.int .i64 20)]⟩))))) ∧
((true) = false →
 False))))))) ∧
(∀ i1, (q62 l i1).fst →
(((decide (i1.i < l.length)) = true →
((∃ y2 : Nat × Nat, aNextStr (.pointer (some ⟨6, 0, none⟩)) (cph12 l i1) = some ((.tuple ⟨[(.bool true), (.int .i64 ((i1.i : Nat) : Int)), (.int .i32 ((y2.fst : Nat) : Int))]⟩), ((cph0 l i1 y2) : AHeap))) ∧
∀ y2 : Nat × Nat, aNextStr (.pointer (some ⟨6, 0, none⟩)) (cph12 l i1) = some ((.tuple ⟨[(.bool true), (.int .i64 ((i1.i : Nat) : Int)), (.int .i32 ((y2.fst : Nat) : Int))]⟩), ((cph0 l i1 y2) : AHeap)) →
((∃ z3 : Int, aIndex Tryd.prog 9 (.string (bs (l))) (.int .i64 ((i1.i : Nat) : Int)) = some (.int .u8 z3)) ∧
∀ z3 : Int, aIndex Tryd.prog 9 (.string (bs (l))) (.int .i64 ((i1.i : Nat) : Int)) = some (.int .u8 z3) →
(((z3 == 58) = true →
(((!(bs i1.part).toList == (bs []).toList) = true →
(SpecK Tryd.prog 101 [(.string (bs (i1.part))), (.int .i64 16)] (cph0 l i1 y2) (.int .i64 (valB 16 i1.part)) ∧
∀ _ : Unit, True →
(((some (.slice (some ⟨7, 0, (some 1)⟩) i1.g.length i1.g.length)) : Option Value) = (some (.slice (some ⟨7, 0, (some 1)⟩) i1.g.length i1.g.length))) ∧
((aAppend Tryd.prog 80 80 (.slice (some ⟨7, 0, (some 1)⟩) i1.g.length i1.g.length) (.slice (some ⟨8, 0, none⟩) 1 1) [zA, zN, zE, .cells [(.string (bs (l))), (.int .i64 0)] false, zA, .cells [(.string (bs (l))), (.slice (some ⟨7, 0, (some 1)⟩) i1.g.length i1.g.length), (.string (bs (i1.part))), (.int .i64 ((i1.gap : Nat) : Int)), (.bool false), (.bool false), (.slice none 0 0), (.bool false)] false, AObj.strIter (bs l) (i1.i + y2.snd), .tcells (ic i1.g) 3 (some 0), .tcells [(.int .i64 (valB 16 i1.part))] 3 (some 0)] = some ((.slice (some ⟨9, 0, (some 1)⟩) (i1.g.length + 1) (i1.g.length + 1)), ((cph28 l i1 y2) : AHeap))) ∧
(SpecK Tryd.prog 103 [(.pointer (some ⟨5, 0, none⟩))] (cph27 l i1 y2) (.int .i64 (rmI (i1.g.length + 1) (((i1.gap : Nat) : Int)).toNat)) ∧
∀ _ : Unit, True →
(((decide (rmI (i1.g.length + 1) (((i1.gap : Nat) : Int)).toNat < 1)) = true →
(((((i1.gap : Nat) : Int) == 0) = true →
(((((i1.g.length + 1 : Nat) : Int) == 8) = true →
(((((i1.gap : Nat) : Int) == 0) = true →
(((((i1.g.length + 1 : Nat) : Int) == 8) = true →
∀ z4 : Int, z4 = (IntKind.i64.wrap (0 + ((i1.i : Nat) : Int))) →
 Q (.ret (.tuple ⟨[zG, (.int .i64 z4), (.int .i64 20)]⟩))) ∧
((((i1.g.length + 1 : Nat) : Int) == 8) = false →
 False))) ∧
((((i1.gap : Nat) : Int) == 0) = false →
 False))) ∧
((((i1.g.length + 1 : Nat) : Int) == 8) = false →
(((decide (((i1.gap : Nat) : Int) > 0)) = true →
∀ z4 : Int, z4 = (IntKind.i64.wrap (0 + ((i1.i : Nat) : Int))) →
 Q (.ret (.tuple ⟨[zG, (.int .i64 z4), (.int .i64 20)]⟩))) ∧
((decide (((i1.gap : Nat) : Int) > 0)) = false →
(((((i1.gap : Nat) : Int) == 0) = true →
(((((i1.g.length + 1 : Nat) : Int) == 8) = true →
 False) ∧
((((i1.g.length + 1 : Nat) : Int) == 8) = false →
((cpf1 l i1 y2))))) ∧
((((i1.gap : Nat) : Int) == 0) = false →
 False))))))) ∧
((((i1.gap : Nat) : Int) == 0) = false →
(((decide (((i1.gap : Nat) : Int) > 0)) = true →
∀ z4 : Int, z4 = (IntKind.i64.wrap (0 + ((i1.i : Nat) : Int))) →
 Q (.ret (.tuple ⟨[zG, (.int .i64 z4), (.int .i64 20)]⟩))) ∧
((decide (((i1.gap : Nat) : Int) > 0)) = false →
(((((i1.gap : Nat) : Int) == 0) = true →
 False) ∧
((((i1.gap : Nat) : Int) == 0) = false →
((cpf1 l i1 y2))))))))) ∧
((decide (rmI (i1.g.length + 1) (((i1.gap : Nat) : Int)).toNat < 1)) = false →
(((((i1.gap : Nat) : Int) == 0) = true →
(((((i1.g.length + 1 : Nat) : Int) == 8) = true →
∀ z4 : Int, z4 = (IntKind.i64.wrap (0 + ((i1.i : Nat) : Int))) →
 Q (.ret (.tuple ⟨[zG, (.int .i64 z4), (.int .i64 20)]⟩))) ∧
((((i1.g.length + 1 : Nat) : Int) == 8) = false →
((cpf1 l i1 y2))))) ∧
((((i1.gap : Nat) : Int) == 0) = false →
((cpf1 l i1 y2)))))))))) ∧
((!(bs i1.part).toList == (bs []).toList) = false →
(((!(bs l).toList == (bs []).toList) = true →
∀ z4 : Int, z4 = (((i1.g.length : Nat) : Int)) →
(((z4 == 0) = true →
(((((i1.gap : Nat) : Int) == 0) = true →
(someN [] 4 (fun a' => (m6 l) a' < (m6 l) i1) ⟨[(34, (.pointer (some ⟨6, 0, none⟩))), (6, (.pointer (some ⟨5, 0, none⟩))), (5, (.string (bs (l)))), (4, (.pointer (some ⟨4, 0, none⟩))), (0, (.pointer (some ⟨3, 0, none⟩))), (1, (.int .u8 0))], [], [zA, zN, zE, .cells [(.string (bs (l))), (.int .i64 0)] false, zA, .cells [(.string (bs (l))), (.slice (some ⟨7, 0, (some 1)⟩) i1.g.length i1.g.length), (.string (bs (i1.part))), (.int .i64 ((i1.gap : Nat) : Int)), (.bool false), (.bool true), (.slice none 0 0), (.bool false)] false, AObj.strIter (bs l) (i1.i + y2.snd), .tcells (ic i1.g) 3 (some 0)], .norm⟩ [(q60 l), (q61 l), (q62 l), (q63 l), (q64 l), (q65 l), (q66 l), (q67 l)])) ∧
((((i1.gap : Nat) : Int) == 0) = false →
∀ z5 : Int, z5 = (IntKind.i64.wrap (0 + ((i1.i : Nat) : Int))) →
 Q (.ret (.tuple ⟨[zG, (.int .i64 z5), (.int .i64 20)]⟩))))) ∧
((z4 == 0) = false →
∀ z5 : Int, z5 = (IntKind.i64.wrap (0 + ((i1.i : Nat) : Int))) →
 Q (.ret (.tuple ⟨[zG, (.int .i64 z5), (.int .i64 20)]⟩))))) ∧
((!(bs l).toList == (bs []).toList) = false →
∀ z4 : Int, z4 = (IntKind.i64.wrap (0 + ((i1.i : Nat) : Int))) →
 Q (.ret (.tuple ⟨[zG, (.int .i64 z4), (.int .i64 20)]⟩))))))) ∧
((z3 == 58) = false →
(((z3 == 46) = true →
(SpecK Tryd.prog 99 [(.string (bs (i1.part)))] (cph0 l i1 y2) (.bool (dec i1.part)) ∧
∀ _ : Unit, True →
(((!dec i1.part) = true →
∀ z4 : Int, z4 = (IntKind.i64.wrap (0 + ((i1.i : Nat) : Int))) →
 Q (.ret (.tuple ⟨[zG, (.int .i64 z4), (.int .i64 20)]⟩))) ∧
((!dec i1.part) = false →
(SpecK Tryd.prog 100 [(.pointer (some ⟨5, 0, none⟩))] (cph0 l i1 y2) (.bool (mdB i1.g.length (((i1.gap : Nat) : Int)).toNat)) ∧
∀ _ : Unit, True →
(((!mdB i1.g.length (((i1.gap : Nat) : Int)).toNat) = true →
∀ z4 : Int, z4 = (IntKind.i64.wrap (0 + ((i1.i : Nat) : Int))) →
 Q (.ret (.tuple ⟨[zG, (.int .i64 z4), (.int .i64 20)]⟩))) ∧
((!mdB i1.g.length (((i1.gap : Nat) : Int)).toNat) = false →
(SpecK Tryd.prog 101 [(.string (bs (i1.part))), (.int .i64 10)] (cph30 l i1 y2) (.int .i64 (valB 10 i1.part)) ∧
∀ _ : Unit, True →
(someN [] 4 (fun a' => (m6 l) a' < (m6 l) i1) ⟨[(34, (.pointer (some ⟨6, 0, none⟩))), (6, (.pointer (some ⟨5, 0, none⟩))), (5, (.string (bs (l)))), (4, (.pointer (some ⟨4, 0, none⟩))), (0, (.pointer (some ⟨3, 0, none⟩))), (1, (.int .u8 0))], [], [zA, zN, zE, .cells [(.string (bs (l))), (.int .i64 0)] false, zA, .cells [(.string (bs (l))), (.slice (some ⟨7, 0, (some 1)⟩) i1.g.length i1.g.length), (.string (bs ([]))), (.int .i64 ((i1.gap : Nat) : Int)), (.bool false), (.bool false), (.slice (some ⟨8, 0, none⟩) 1 1), (.bool true)] false, AObj.strIter (bs l) (i1.i + y2.snd), .tcells (ic i1.g) 3 (some 0), .tcells [(.int .i64 (valB 10 i1.part))] 3 (some 0)], .norm⟩ [(q60 l), (q61 l), (q62 l), (q63 l), (q64 l), (q65 l), (q66 l), (q67 l)]))))))))) ∧
((z3 == 46) = false →
(SpecK Tryd.prog 102 [(.int .u8 z3)] (cph0 l i1 y2) (.int .i64 (hxI z3)) ∧
∀ _ : Unit, True →
(((decide (hxI z3 < 0)) = true →
∀ z4 : Int, z4 = (IntKind.i64.wrap (0 + ((i1.i : Nat) : Int))) →
 Q (.ret (.tuple ⟨[zG, (.int .i64 z4), (.int .i64 20)]⟩))) ∧
((decide (hxI z3 < 0)) = false →
(SpecK Tryd.prog 103 [(.pointer (some ⟨5, 0, none⟩))] (cph0 l i1 y2) (.int .i64 (rmI i1.g.length (((i1.gap : Nat) : Int)).toNat)) ∧
∀ _ : Unit, True →
(((decide (rmI i1.g.length (((i1.gap : Nat) : Int)).toNat < 1)) = true →
∀ z4 : Int, z4 = (IntKind.i64.wrap (0 + ((i1.i : Nat) : Int))) →
 Q (.ret (.tuple ⟨[zG, (.int .i64 z4), (.int .i64 20)]⟩))) ∧
((decide (rmI i1.g.length (((i1.gap : Nat) : Int)).toNat < 1)) = false →
∀ z4 : Int, z4 = ((((bs i1.part).size : Nat) : Int)) →
(((decide (z4 < 4)) = true →
∀ z5 : Int, z5 = (IntKind.i32.wrap z3) →
(((some (.string (Go.Utf8.encode z5)) : Option Value) = some (.string (bs ((Go.Utf8.encode z5).data.toList)))) ∧
((aBin2 Tryd.prog BinOp.add 9 (Operand.tmp 80) (Operand.tmp 83) (.string (bs (i1.part))) (.string (bs ((Go.Utf8.encode z5).data.toList))) = some (.string (bs (i1.part ++ (Go.Utf8.encode z5).data.toList)))) ∧
(someN [] 4 (fun a' => (m6 l) a' < (m6 l) i1) ⟨[(34, (.pointer (some ⟨6, 0, none⟩))), (6, (.pointer (some ⟨5, 0, none⟩))), (5, (.string (bs (l)))), (4, (.pointer (some ⟨4, 0, none⟩))), (0, (.pointer (some ⟨3, 0, none⟩))), (1, (.int .u8 0))], [], [zA, zN, zE, .cells [(.string (bs (l))), (.int .i64 0)] false, zA, .cells [(.string (bs (l))), (.slice (some ⟨7, 0, (some 1)⟩) i1.g.length i1.g.length), (.string (bs (i1.part ++ (Go.Utf8.encode z5).data.toList))), (.int .i64 ((i1.gap : Nat) : Int)), (.bool false), (.bool false), (.slice none 0 0), (.bool false)] false, AObj.strIter (bs l) (i1.i + y2.snd), .tcells (ic i1.g) 3 (some 0)], .norm⟩ [(q60 l), (q61 l), (q62 l), (q63 l), (q64 l), (q65 l), (q66 l), (q67 l)])))) ∧
((decide (z4 < 4)) = false →
∀ z5 : Int, z5 = (IntKind.i64.wrap (0 + ((i1.i : Nat) : Int))) →
 Q (.ret (.tuple ⟨[zG, (.int .i64 z5), (.int .i64 20)]⟩))))))))))))))))) ∧
((decide (i1.i < l.length)) = false →
((aNextStr (.pointer (some ⟨6, 0, none⟩)) (cph12 l i1) = some ((.tuple ⟨[(.bool false)]⟩), ((cph12 l i1) : AHeap))) ∧
(SpecC Tryd.prog [] (.fn 86) [(.pointer (some ⟨5, 0, none⟩))] (cph12 l i1) (fun r h' => ((true) = true →
 r = (((.ret (mkA (unI (ic i1.g)) i1.part (((i1.gap : Nat) : Int)).toNat Bool.false Bool.false [] Bool.false)), ((cph21 l i1) : AHeap)) : Res × AHeap).1 ∧
 h' = (((.ret (mkA (unI (ic i1.g)) i1.part (((i1.gap : Nat) : Int)).toNat Bool.false Bool.false [] Bool.false)), ((cph21 l i1) : AHeap)) : Res × AHeap).2) ∧
((true) = false →
 r = (((.ret .nilIface), ([] : AHeap)) : Res × AHeap).1 ∧
 h' = (((.ret .nilIface), ([] : AHeap)) : Res × AHeap).2)) ∧
(((true) = true →
∀ z2 : Int, z2 = ((((bs l).size : Nat) : Int)) →
∀ z3 : Int, z3 = (IntKind.i64.wrap (0 + z2)) →
(((oA (unI (ic i1.g)) i1.part (((i1.gap : Nat) : Int)).toNat Bool.false Bool.false [] Bool.false) = true →
∀ z4 : Int, z4 = ((((bs l).size : Nat) : Int)) →
(((decide (z3 < z4)) = true →
 Q (.ret (.tuple ⟨[zG, (.int .i64 z3), (.int .i64 20)]⟩))) ∧
((decide (z3 < z4)) = false →
 Q (.ret (.tuple ⟨[(bG (unI (ic i1.g)) i1.part (((i1.gap : Nat) : Int)).toNat Bool.false Bool.false [] Bool.false), (.int .i64 0), (.int .i64 0)]⟩))))) ∧
((oA (unI (ic i1.g)) i1.part (((i1.gap : Nat) : Int)).toNat Bool.false Bool.false [] Bool.false) = false →
 Q (.ret (.tuple ⟨[zG, (.int .i64 z3), (.int .i64 20)]⟩))))) ∧
((true) = false →
 False))))))) ∧
(∀ i1, (q63 l i1).fst →
(((decide (i1.i < l.length)) = true →
((∃ y2 : Nat × Nat, aNextStr (.pointer (some ⟨6, 0, none⟩)) (cph13 l i1) = some ((.tuple ⟨[(.bool true), (.int .i64 ((i1.i : Nat) : Int)), (.int .i32 ((y2.fst : Nat) : Int))]⟩), ((cph1 l i1 y2) : AHeap))) ∧
∀ y2 : Nat × Nat, aNextStr (.pointer (some ⟨6, 0, none⟩)) (cph13 l i1) = some ((.tuple ⟨[(.bool true), (.int .i64 ((i1.i : Nat) : Int)), (.int .i32 ((y2.fst : Nat) : Int))]⟩), ((cph1 l i1 y2) : AHeap)) →
((∃ z3 : Int, aIndex Tryd.prog 9 (.string (bs (l))) (.int .i64 ((i1.i : Nat) : Int)) = some (.int .u8 z3)) ∧
∀ z3 : Int, aIndex Tryd.prog 9 (.string (bs (l))) (.int .i64 ((i1.i : Nat) : Int)) = some (.int .u8 z3) →
(((z3 == 58) = true →
(((!(bs l).toList == (bs []).toList) = true →
∀ z4 : Int, z4 = (((i1.g.length : Nat) : Int)) →
(((z4 == 0) = true →
(((((i1.gap : Nat) : Int) == 0) = true →
(((cpf2 l i1 y2)) ∧
((((i1.gap : Nat) : Int) == 0) = false →
 False))) ∧
((((i1.gap : Nat) : Int) == 0) = false →
(((((i1.gap : Nat) : Int) == 0) = true →
 False) ∧
((((i1.gap : Nat) : Int) == 0) = false →
∀ z5 : Int, z5 = (IntKind.i64.wrap (0 + ((i1.i : Nat) : Int))) →
 Q (.ret (.tuple ⟨[zG, (.int .i64 z5), (.int .i64 20)]⟩))))))) ∧
((z4 == 0) = false →
(((cpf2 l i1 y2)) ∧
((((i1.gap : Nat) : Int) == 0) = false →
∀ z5 : Int, z5 = (IntKind.i64.wrap (0 + ((i1.i : Nat) : Int))) →
 Q (.ret (.tuple ⟨[zG, (.int .i64 z5), (.int .i64 20)]⟩))))))) ∧
((!(bs l).toList == (bs []).toList) = false →
(((cpf2 l i1 y2)) ∧
((((i1.gap : Nat) : Int) == 0) = false →
∀ z4 : Int, z4 = (IntKind.i64.wrap (0 + ((i1.i : Nat) : Int))) →
 Q (.ret (.tuple ⟨[zG, (.int .i64 z4), (.int .i64 20)]⟩))))))) ∧
((z3 == 58) = false →
(((z3 == 46) = true →
(SpecK Tryd.prog 99 [(.string (bs ([])))] (cph1 l i1 y2) (.bool (dec [])) ∧
∀ _ : Unit, True →
(((!dec []) = true →
∀ z4 : Int, z4 = (IntKind.i64.wrap (0 + ((i1.i : Nat) : Int))) →
 Q (.ret (.tuple ⟨[zG, (.int .i64 z4), (.int .i64 20)]⟩))) ∧
((!dec []) = false →
(SpecK Tryd.prog 100 [(.pointer (some ⟨5, 0, none⟩))] (cph1 l i1 y2) (.bool (mdB i1.g.length (((i1.gap : Nat) : Int)).toNat)) ∧
∀ _ : Unit, True →
(((!mdB i1.g.length (((i1.gap : Nat) : Int)).toNat) = true →
∀ z4 : Int, z4 = (IntKind.i64.wrap (0 + ((i1.i : Nat) : Int))) →
 Q (.ret (.tuple ⟨[zG, (.int .i64 z4), (.int .i64 20)]⟩))) ∧
((!mdB i1.g.length (((i1.gap : Nat) : Int)).toNat) = false →
(SpecK Tryd.prog 101 [(.string (bs ([]))), (.int .i64 10)] (cph31 l i1 y2) (.int .i64 (valB 10 [])) ∧
∀ _ : Unit, True →
(someN [] 4 (fun a' => (m6 l) a' < (m6 l) i1) ⟨[(34, (.pointer (some ⟨6, 0, none⟩))), (6, (.pointer (some ⟨5, 0, none⟩))), (5, (.string (bs (l)))), (4, (.pointer (some ⟨4, 0, none⟩))), (0, (.pointer (some ⟨3, 0, none⟩))), (1, (.int .u8 0))], [], [zA, zN, zE, .cells [(.string (bs (l))), (.int .i64 0)] false, zA, .cells [(.string (bs (l))), (.slice (some ⟨7, 0, (some 1)⟩) i1.g.length i1.g.length), (.string (bs ([]))), (.int .i64 ((i1.gap : Nat) : Int)), (.bool true), (.bool false), (.slice (some ⟨8, 0, none⟩) 1 1), (.bool true)] false, AObj.strIter (bs l) (i1.i + y2.snd), .tcells (ic i1.g) 3 (some 0), .tcells [(.int .i64 (valB 10 []))] 3 (some 0)], .norm⟩ [(q60 l), (q61 l), (q62 l), (q63 l), (q64 l), (q65 l), (q66 l), (q67 l)]))))))))) ∧
((z3 == 46) = false →
(SpecK Tryd.prog 102 [(.int .u8 z3)] (cph1 l i1 y2) (.int .i64 (hxI z3)) ∧
∀ _ : Unit, True →
(((decide (hxI z3 < 0)) = true →
∀ z4 : Int, z4 = (IntKind.i64.wrap (0 + ((i1.i : Nat) : Int))) →
 Q (.ret (.tuple ⟨[zG, (.int .i64 z4), (.int .i64 20)]⟩))) ∧
((decide (hxI z3 < 0)) = false →
(SpecK Tryd.prog 103 [(.pointer (some ⟨5, 0, none⟩))] (cph1 l i1 y2) (.int .i64 (rmI i1.g.length (((i1.gap : Nat) : Int)).toNat)) ∧
∀ _ : Unit, True →
(((decide (rmI i1.g.length (((i1.gap : Nat) : Int)).toNat < 1)) = true →
∀ z4 : Int, z4 = (IntKind.i64.wrap (0 + ((i1.i : Nat) : Int))) →
 Q (.ret (.tuple ⟨[zG, (.int .i64 z4), (.int .i64 20)]⟩))) ∧
((decide (rmI i1.g.length (((i1.gap : Nat) : Int)).toNat < 1)) = false →
∀ z4 : Int, z4 = (IntKind.i32.wrap z3) →
(((some (.string (Go.Utf8.encode z4)) : Option Value) = some (.string (bs ((Go.Utf8.encode z4).data.toList)))) ∧
((aBin2 Tryd.prog BinOp.add 9 (Operand.tmp 80) (Operand.tmp 83) (.string (bs ([]))) (.string (bs ((Go.Utf8.encode z4).data.toList))) = some (.string (bs ((Go.Utf8.encode z4).data.toList)))) ∧
(someN [] 4 (fun a' => (m6 l) a' < (m6 l) i1) ⟨[(34, (.pointer (some ⟨6, 0, none⟩))), (6, (.pointer (some ⟨5, 0, none⟩))), (5, (.string (bs (l)))), (4, (.pointer (some ⟨4, 0, none⟩))), (0, (.pointer (some ⟨3, 0, none⟩))), (1, (.int .u8 0))], [], [zA, zN, zE, .cells [(.string (bs (l))), (.int .i64 0)] false, zA, .cells [(.string (bs (l))), (.slice (some ⟨7, 0, (some 1)⟩) i1.g.length i1.g.length), (.string (bs ((Go.Utf8.encode z4).data.toList))), (.int .i64 ((i1.gap : Nat) : Int)), (.bool false), (.bool false), (.slice none 0 0), (.bool false)] false, AObj.strIter (bs l) (i1.i + y2.snd), .tcells (ic i1.g) 3 (some 0)], .norm⟩ [(q60 l), (q61 l), (q62 l), (q63 l), (q64 l), (q65 l), (q66 l), (q67 l)])))))))))))))))) ∧
((decide (i1.i < l.length)) = false →
((aNextStr (.pointer (some ⟨6, 0, none⟩)) (cph13 l i1) = some ((.tuple ⟨[(.bool false)]⟩), ((cph13 l i1) : AHeap))) ∧
(SpecC Tryd.prog [] (.fn 86) [(.pointer (some ⟨5, 0, none⟩))] (cph13 l i1) (fun r h' => ((true) = true →
 r = (((.ret (mkA (unI (ic i1.g)) [] (((i1.gap : Nat) : Int)).toNat Bool.true Bool.false [] Bool.false)), ((cph22 l i1) : AHeap)) : Res × AHeap).1 ∧
 h' = (((.ret (mkA (unI (ic i1.g)) [] (((i1.gap : Nat) : Int)).toNat Bool.true Bool.false [] Bool.false)), ((cph22 l i1) : AHeap)) : Res × AHeap).2) ∧
((true) = false →
 r = (((.ret .nilIface), ([] : AHeap)) : Res × AHeap).1 ∧
 h' = (((.ret .nilIface), ([] : AHeap)) : Res × AHeap).2)) ∧
(((true) = true →
∀ z2 : Int, z2 = ((((bs l).size : Nat) : Int)) →
∀ z3 : Int, z3 = (IntKind.i64.wrap (0 + z2)) →
(((oA (unI (ic i1.g)) [] (((i1.gap : Nat) : Int)).toNat Bool.true Bool.false [] Bool.false) = true →
∀ z4 : Int, z4 = ((((bs l).size : Nat) : Int)) →
(((decide (z3 < z4)) = true →
 Q (.ret (.tuple ⟨[zG, (.int .i64 z3), (.int .i64 20)]⟩))) ∧
((decide (z3 < z4)) = false →
 Q (.ret (.tuple ⟨[(bG (unI (ic i1.g)) [] (((i1.gap : Nat) : Int)).toNat Bool.true Bool.false [] Bool.false), (.int .i64 0), (.int .i64 0)]⟩))))) ∧
((oA (unI (ic i1.g)) [] (((i1.gap : Nat) : Int)).toNat Bool.true Bool.false [] Bool.false) = false →
 Q (.ret (.tuple ⟨[zG, (.int .i64 z3), (.int .i64 20)]⟩))))) ∧
((true) = false →
 False))))))) ∧
(∀ i1, (q64 l i1).fst →
(((decide (i1.i < l.length)) = true →
((∃ y2 : Nat × Nat, aNextStr (.pointer (some ⟨6, 0, none⟩)) (cph14 l i1) = some ((.tuple ⟨[(.bool true), (.int .i64 ((i1.i : Nat) : Int)), (.int .i32 ((y2.fst : Nat) : Int))]⟩), ((cph8 l i1 y2) : AHeap))) ∧
∀ y2 : Nat × Nat, aNextStr (.pointer (some ⟨6, 0, none⟩)) (cph14 l i1) = some ((.tuple ⟨[(.bool true), (.int .i64 ((i1.i : Nat) : Int)), (.int .i32 ((y2.fst : Nat) : Int))]⟩), ((cph8 l i1 y2) : AHeap)) →
((∃ z3 : Int, aIndex Tryd.prog 9 (.string (bs (l))) (.int .i64 ((i1.i : Nat) : Int)) = some (.int .u8 z3)) ∧
∀ z3 : Int, aIndex Tryd.prog 9 (.string (bs (l))) (.int .i64 ((i1.i : Nat) : Int)) = some (.int .u8 z3) →
(((z3 == 46) = true →
((((bs i1.part).toList == (bs []).toList) = true →
∀ z4 : Int, z4 = (IntKind.i64.wrap (0 + ((i1.i : Nat) : Int))) →
 Q (.ret (.tuple ⟨[zG, (.int .i64 z4), (.int .i64 20)]⟩))) ∧
(((bs i1.part).toList == (bs []).toList) = false →
(SpecK Tryd.prog 101 [(.string (bs (i1.part))), (.int .i64 10)] (cph8 l i1 y2) (.int .i64 (valB 10 i1.part)) ∧
∀ _ : Unit, True →
(((some (.slice (some ⟨7, 0, none⟩) 1 1)) : Option Value) = (some (.slice (some ⟨7, 0, none⟩) 1 1))) ∧
(someN [] 4 (fun a' => (m6 l) a' < (m6 l) i1) ⟨[(34, (.pointer (some ⟨6, 0, none⟩))), (6, (.pointer (some ⟨5, 0, none⟩))), (5, (.string (bs (l)))), (4, (.pointer (some ⟨4, 0, none⟩))), (0, (.pointer (some ⟨3, 0, none⟩))), (1, (.int .u8 0))], [], [zA, zN, zE, .cells [(.string (bs (l))), (.int .i64 0)] false, zA, .cells [(.string (bs (l))), (.slice none 0 0), (.string (bs ([]))), (.int .i64 ((i1.gap : Nat) : Int)), (.bool false), (.bool false), (.slice (some ⟨9, 0, (some 1)⟩) 2 2), (.bool true)] false, AObj.strIter (bs l) (i1.i + y2.snd), .tcells [(.int .i64 i1.d)] 3 (some 0), .tcells [(.int .i64 (valB 10 i1.part))] 3 (some 0), .tcells [(.int .i64 i1.d), (.int .i64 (valB 10 i1.part))] 3 (some 0)], .norm⟩ [(q60 l), (q61 l), (q62 l), (q63 l), (q64 l), (q65 l), (q66 l), (q67 l)]))))) ∧
((z3 == 46) = false →
(((decide (z3 < 48)) = true →
∀ z4 : Int, z4 = (IntKind.i64.wrap (0 + ((i1.i : Nat) : Int))) →
 Q (.ret (.tuple ⟨[zG, (.int .i64 z4), (.int .i64 20)]⟩))) ∧
((decide (z3 < 48)) = false →
(((decide (z3 > 57)) = true →
∀ z4 : Int, z4 = (IntKind.i64.wrap (0 + ((i1.i : Nat) : Int))) →
 Q (.ret (.tuple ⟨[zG, (.int .i64 z4), (.int .i64 20)]⟩))) ∧
((decide (z3 > 57)) = false →
∀ z4 : Int, z4 = (IntKind.i32.wrap z3) →
(((some (.string (Go.Utf8.encode z4)) : Option Value) = some (.string (bs ((Go.Utf8.encode z4).data.toList)))) ∧
((aBin2 Tryd.prog BinOp.add 9 (Operand.tmp 47) (Operand.tmp 50) (.string (bs (i1.part))) (.string (bs ((Go.Utf8.encode z4).data.toList))) = some (.string (bs (i1.part ++ (Go.Utf8.encode z4).data.toList)))) ∧
(SpecK Tryd.prog 99 [(.string (bs (i1.part ++ (Go.Utf8.encode z4).data.toList)))] (cph8 l i1 y2) (.bool (dec (i1.part ++ (Go.Utf8.encode z4).data.toList))) ∧
∀ _ : Unit, True →
(((!dec (i1.part ++ (Go.Utf8.encode z4).data.toList)) = true →
∀ z5 : Int, z5 = (IntKind.i64.wrap (0 + ((i1.i : Nat) : Int))) →
 Q (.ret (.tuple ⟨[zG, (.int .i64 z5), (.int .i64 20)]⟩))) ∧
((!dec (i1.part ++ (Go.Utf8.encode z4).data.toList)) = false →
∀ z5 : Int, z5 = (IntKind.i32.wrap z3) →
(((some (.string (Go.Utf8.encode z5)) : Option Value) = some (.string (bs ((Go.Utf8.encode z5).data.toList)))) ∧
((aBin2 Tryd.prog BinOp.add 9 (Operand.tmp 58) (Operand.tmp 61) (.string (bs (i1.part))) (.string (bs ((Go.Utf8.encode z5).data.toList))) = some (.string (bs (i1.part ++ (Go.Utf8.encode z5).data.toList)))) ∧
(someN [] 4 (fun a' => (m6 l) a' < (m6 l) i1) ⟨[(34, (.pointer (some ⟨6, 0, none⟩))), (6, (.pointer (some ⟨5, 0, none⟩))), (5, (.string (bs (l)))), (4, (.pointer (some ⟨4, 0, none⟩))), (0, (.pointer (some ⟨3, 0, none⟩))), (1, (.int .u8 0))], [], [zA, zN, zE, .cells [(.string (bs (l))), (.int .i64 0)] false, zA, .cells [(.string (bs (l))), (.slice none 0 0), (.string (bs (i1.part ++ (Go.Utf8.encode z5).data.toList))), (.int .i64 ((i1.gap : Nat) : Int)), (.bool false), (.bool false), (.slice (some ⟨7, 0, none⟩) 1 1), (.bool true)] false, AObj.strIter (bs l) (i1.i + y2.snd), .tcells [(.int .i64 i1.d)] 3 (some 0)], .norm⟩ [(q60 l), (q61 l), (q62 l), (q63 l), (q64 l), (q65 l), (q66 l), (q67 l)]))))))))))))))))) ∧
((decide (i1.i < l.length)) = false →
((aNextStr (.pointer (some ⟨6, 0, none⟩)) (cph14 l i1) = some ((.tuple ⟨[(.bool false)]⟩), ((cph14 l i1) : AHeap))) ∧
(SpecC Tryd.prog [] (.fn 86) [(.pointer (some ⟨5, 0, none⟩))] (cph14 l i1) (fun r h' => ((true) = true →
 r = (((.ret (mkA [] i1.part (((i1.gap : Nat) : Int)).toNat Bool.false Bool.false (unI [Go.Value.int IntKind.i64 i1.d]) Bool.true)), ((cph23 l i1) : AHeap)) : Res × AHeap).1 ∧
 h' = (((.ret (mkA [] i1.part (((i1.gap : Nat) : Int)).toNat Bool.false Bool.false (unI [Go.Value.int IntKind.i64 i1.d]) Bool.true)), ((cph23 l i1) : AHeap)) : Res × AHeap).2) ∧
((true) = false →
 r = (((.ret .nilIface), ([] : AHeap)) : Res × AHeap).1 ∧
 h' = (((.ret .nilIface), ([] : AHeap)) : Res × AHeap).2)) ∧
(((true) = true →
∀ z2 : Int, z2 = ((((bs l).size : Nat) : Int)) →
∀ z3 : Int, z3 = (IntKind.i64.wrap (0 + z2)) →
(((oA [] i1.part (((i1.gap : Nat) : Int)).toNat Bool.false Bool.false (unI [Go.Value.int IntKind.i64 i1.d]) Bool.true) = true →
∀ z4 : Int, z4 = ((((bs l).size : Nat) : Int)) →
(((decide (z3 < z4)) = true →
 Q (.ret (.tuple ⟨[zG, (.int .i64 z3), (.int .i64 20)]⟩))) ∧
((decide (z3 < z4)) = false →
 Q (.ret (.tuple ⟨[(bG [] i1.part (((i1.gap : Nat) : Int)).toNat Bool.false Bool.false (unI [Go.Value.int IntKind.i64 i1.d]) Bool.true), (.int .i64 0), (.int .i64 0)]⟩))))) ∧
((oA [] i1.part (((i1.gap : Nat) : Int)).toNat Bool.false Bool.false (unI [Go.Value.int IntKind.i64 i1.d]) Bool.true) = false →
 Q (.ret (.tuple ⟨[zG, (.int .i64 z3), (.int .i64 20)]⟩))))) ∧
((true) = false →
 False))))))) ∧
(∀ i1, (q65 l i1).fst →
(((decide (i1.i < l.length)) = true →
((∃ y2 : Nat × Nat, aNextStr (.pointer (some ⟨6, 0, none⟩)) (cph9 l i1) = some ((.tuple ⟨[(.bool true), (.int .i64 ((i1.i : Nat) : Int)), (.int .i32 ((y2.fst : Nat) : Int))]⟩), ((cph4 l i1 y2) : AHeap))) ∧
∀ y2 : Nat × Nat, aNextStr (.pointer (some ⟨6, 0, none⟩)) (cph9 l i1) = some ((.tuple ⟨[(.bool true), (.int .i64 ((i1.i : Nat) : Int)), (.int .i32 ((y2.fst : Nat) : Int))]⟩), ((cph4 l i1 y2) : AHeap)) →
((∃ z3 : Int, aIndex Tryd.prog 9 (.string (bs (l))) (.int .i64 ((i1.i : Nat) : Int)) = some (.int .u8 z3)) ∧
∀ z3 : Int, aIndex Tryd.prog 9 (.string (bs (l))) (.int .i64 ((i1.i : Nat) : Int)) = some (.int .u8 z3) →
(((z3 == 46) = true →
((((bs i1.part).toList == (bs []).toList) = true →
∀ z4 : Int, z4 = (IntKind.i64.wrap (0 + ((i1.i : Nat) : Int))) →
 Q (.ret (.tuple ⟨[zG, (.int .i64 z4), (.int .i64 20)]⟩))) ∧
(((bs i1.part).toList == (bs []).toList) = false →
(SpecK Tryd.prog 101 [(.string (bs (i1.part))), (.int .i64 10)] (cph4 l i1 y2) (.int .i64 (valB 10 i1.part)) ∧
∀ _ : Unit, True →
(((some (.slice (some ⟨8, 0, none⟩) 1 1)) : Option Value) = (some (.slice (some ⟨8, 0, none⟩) 1 1))) ∧
(someN [] 4 (fun a' => (m6 l) a' < (m6 l) i1) ⟨[(34, (.pointer (some ⟨6, 0, none⟩))), (6, (.pointer (some ⟨5, 0, none⟩))), (5, (.string (bs (l)))), (4, (.pointer (some ⟨4, 0, none⟩))), (0, (.pointer (some ⟨3, 0, none⟩))), (1, (.int .u8 0))], [], [zA, zN, zE, .cells [(.string (bs (l))), (.int .i64 0)] false, zA, .cells [(.string (bs (l))), (.slice (some ⟨7, 0, (some 1)⟩) i1.g.length i1.g.length), (.string (bs ([]))), (.int .i64 ((i1.gap : Nat) : Int)), (.bool false), (.bool false), (.slice (some ⟨10, 0, (some 1)⟩) 2 2), (.bool true)] false, AObj.strIter (bs l) (i1.i + y2.snd), .tcells (ic i1.g) 3 (some 0), .tcells [(.int .i64 i1.d)] 3 (some 0), .tcells [(.int .i64 (valB 10 i1.part))] 3 (some 0), .tcells [(.int .i64 i1.d), (.int .i64 (valB 10 i1.part))] 3 (some 0)], .norm⟩ [(q60 l), (q61 l), (q62 l), (q63 l), (q64 l), (q65 l), (q66 l), (q67 l)]))))) ∧
((z3 == 46) = false →
(((decide (z3 < 48)) = true →
∀ z4 : Int, z4 = (IntKind.i64.wrap (0 + ((i1.i : Nat) : Int))) →
 Q (.ret (.tuple ⟨[zG, (.int .i64 z4), (.int .i64 20)]⟩))) ∧
((decide (z3 < 48)) = false →
(((decide (z3 > 57)) = true →
∀ z4 : Int, z4 = (IntKind.i64.wrap (0 + ((i1.i : Nat) : Int))) →
 Q (.ret (.tuple ⟨[zG, (.int .i64 z4), (.int .i64 20)]⟩))) ∧
((decide (z3 > 57)) = false →
∀ z4 : Int, z4 = (IntKind.i32.wrap z3) →
(((some (.string (Go.Utf8.encode z4)) : Option Value) = some (.string (bs ((Go.Utf8.encode z4).data.toList)))) ∧
((aBin2 Tryd.prog BinOp.add 9 (Operand.tmp 47) (Operand.tmp 50) (.string (bs (i1.part))) (.string (bs ((Go.Utf8.encode z4).data.toList))) = some (.string (bs (i1.part ++ (Go.Utf8.encode z4).data.toList)))) ∧
(SpecK Tryd.prog 99 [(.string (bs (i1.part ++ (Go.Utf8.encode z4).data.toList)))] (cph4 l i1 y2) (.bool (dec (i1.part ++ (Go.Utf8.encode z4).data.toList))) ∧
∀ _ : Unit, True →
(((!dec (i1.part ++ (Go.Utf8.encode z4).data.toList)) = true →
∀ z5 : Int, z5 = (IntKind.i64.wrap (0 + ((i1.i : Nat) : Int))) →
 Q (.ret (.tuple ⟨[zG, (.int .i64 z5), (.int .i64 20)]⟩))) ∧
((!dec (i1.part ++ (Go.Utf8.encode z4).data.toList)) = false →
∀ z5 : Int, z5 = (IntKind.i32.wrap z3) →
(((some (.string (Go.Utf8.encode z5)) : Option Value) = some (.string (bs ((Go.Utf8.encode z5).data.toList)))) ∧
((aBin2 Tryd.prog BinOp.add 9 (Operand.tmp 58) (Operand.tmp 61) (.string (bs (i1.part))) (.string (bs ((Go.Utf8.encode z5).data.toList))) = some (.string (bs (i1.part ++ (Go.Utf8.encode z5).data.toList)))) ∧
(someN [] 4 (fun a' => (m6 l) a' < (m6 l) i1) ⟨[(34, (.pointer (some ⟨6, 0, none⟩))), (6, (.pointer (some ⟨5, 0, none⟩))), (5, (.string (bs (l)))), (4, (.pointer (some ⟨4, 0, none⟩))), (0, (.pointer (some ⟨3, 0, none⟩))), (1, (.int .u8 0))], [], [zA, zN, zE, .cells [(.string (bs (l))), (.int .i64 0)] false, zA, .cells [(.string (bs (l))), (.slice (some ⟨7, 0, (some 1)⟩) i1.g.length i1.g.length), (.string (bs (i1.part ++ (Go.Utf8.encode z5).data.toList))), (.int .i64 ((i1.gap : Nat) : Int)), (.bool false), (.bool false), (.slice (some ⟨8, 0, none⟩) 1 1), (.bool true)] false, AObj.strIter (bs l) (i1.i + y2.snd), .tcells (ic i1.g) 3 (some 0), .tcells [(.int .i64 i1.d)] 3 (some 0)], .norm⟩ [(q60 l), (q61 l), (q62 l), (q63 l), (q64 l), (q65 l), (q66 l), (q67 l)]))))))))))))))))) ∧
((decide (i1.i < l.length)) = false →
((aNextStr (.pointer (some ⟨6, 0, none⟩)) (cph9 l i1) = some ((.tuple ⟨[(.bool false)]⟩), ((cph9 l i1) : AHeap))) ∧
(SpecC Tryd.prog [] (.fn 86) [(.pointer (some ⟨5, 0, none⟩))] (cph9 l i1) (fun r h' => ((true) = true →
 r = (((.ret (mkA (unI (ic i1.g)) i1.part (((i1.gap : Nat) : Int)).toNat Bool.false Bool.false (unI [Go.Value.int IntKind.i64 i1.d]) Bool.true)), ((cph18 l i1) : AHeap)) : Res × AHeap).1 ∧
 h' = (((.ret (mkA (unI (ic i1.g)) i1.part (((i1.gap : Nat) : Int)).toNat Bool.false Bool.false (unI [Go.Value.int IntKind.i64 i1.d]) Bool.true)), ((cph18 l i1) : AHeap)) : Res × AHeap).2) ∧
((true) = false →
 r = (((.ret .nilIface), ([] : AHeap)) : Res × AHeap).1 ∧
 h' = (((.ret .nilIface), ([] : AHeap)) : Res × AHeap).2)) ∧
(((true) = true →
∀ z2 : Int, z2 = ((((bs l).size : Nat) : Int)) →
∀ z3 : Int, z3 = (IntKind.i64.wrap (0 + z2)) →
(((oA (unI (ic i1.g)) i1.part (((i1.gap : Nat) : Int)).toNat Bool.false Bool.false (unI [Go.Value.int IntKind.i64 i1.d]) Bool.true) = true →
∀ z4 : Int, z4 = ((((bs l).size : Nat) : Int)) →
(((decide (z3 < z4)) = true →
 Q (.ret (.tuple ⟨[zG, (.int .i64 z3), (.int .i64 20)]⟩))) ∧
((decide (z3 < z4)) = false →
 Q (.ret (.tuple ⟨[(bG (unI (ic i1.g)) i1.part (((i1.gap : Nat) : Int)).toNat Bool.false Bool.false (unI [Go.Value.int IntKind.i64 i1.d]) Bool.true), (.int .i64 0), (.int .i64 0)]⟩))))) ∧
((oA (unI (ic i1.g)) i1.part (((i1.gap : Nat) : Int)).toNat Bool.false Bool.false (unI [Go.Value.int IntKind.i64 i1.d]) Bool.true) = false →
 Q (.ret (.tuple ⟨[zG, (.int .i64 z3), (.int .i64 20)]⟩))))) ∧
((true) = false →
 False))))))) ∧
(∀ i1, (q66 l i1).fst →
(((decide (i1.i < l.length)) = true →
((∃ y2 : Nat × Nat, aNextStr (.pointer (some ⟨6, 0, none⟩)) (cph11 l i1) = some ((.tuple ⟨[(.bool true), (.int .i64 ((i1.i : Nat) : Int)), (.int .i32 ((y2.fst : Nat) : Int))]⟩), ((cph5 l i1 y2) : AHeap))) ∧
∀ y2 : Nat × Nat, aNextStr (.pointer (some ⟨6, 0, none⟩)) (cph11 l i1) = some ((.tuple ⟨[(.bool true), (.int .i64 ((i1.i : Nat) : Int)), (.int .i32 ((y2.fst : Nat) : Int))]⟩), ((cph5 l i1 y2) : AHeap)) →
((∃ z3 : Int, aIndex Tryd.prog 9 (.string (bs (l))) (.int .i64 ((i1.i : Nat) : Int)) = some (.int .u8 z3)) ∧
∀ z3 : Int, aIndex Tryd.prog 9 (.string (bs (l))) (.int .i64 ((i1.i : Nat) : Int)) = some (.int .u8 z3) →
(((z3 == 46) = true →
((((bs i1.part).toList == (bs []).toList) = true →
∀ z4 : Int, z4 = (IntKind.i64.wrap (0 + ((i1.i : Nat) : Int))) →
 Q (.ret (.tuple ⟨[zG, (.int .i64 z4), (.int .i64 20)]⟩))) ∧
(((bs i1.part).toList == (bs []).toList) = false →
∀ z4 : Int, z4 = (((i1.dots.length : Nat) : Int)) →
(((z4 == 3) = true →
∀ z5 : Int, z5 = (IntKind.i64.wrap (0 + ((i1.i : Nat) : Int))) →
 Q (.ret (.tuple ⟨[zG, (.int .i64 z5), (.int .i64 20)]⟩))) ∧
((z4 == 3) = false →
(SpecK Tryd.prog 101 [(.string (bs (i1.part))), (.int .i64 10)] (cph5 l i1 y2) (.int .i64 (valB 10 i1.part)) ∧
∀ _ : Unit, True →
(((some (.slice (some ⟨7, 0, (some 1)⟩) i1.dots.length i1.dots.length)) : Option Value) = (some (.slice (some ⟨7, 0, (some 1)⟩) i1.dots.length i1.dots.length))) ∧
((aAppend Tryd.prog 80 80 (.slice (some ⟨7, 0, (some 1)⟩) i1.dots.length i1.dots.length) (.slice (some ⟨8, 0, none⟩) 1 1) [zA, zN, zE, .cells [(.string (bs (l))), (.int .i64 0)] false, zA, .cells [(.string (bs (l))), (.slice none 0 0), (.string (bs (i1.part))), (.int .i64 ((i1.gap : Nat) : Int)), (.bool false), (.bool false), (.slice (some ⟨7, 0, (some 1)⟩) i1.dots.length i1.dots.length), (.bool true)] false, AObj.strIter (bs l) (i1.i + y2.snd), .tcells (ic i1.dots) 3 (some 0), .tcells [(.int .i64 (valB 10 i1.part))] 3 (some 0)] = some ((.slice (some ⟨9, 0, (some 1)⟩) (i1.dots.length + 1) (i1.dots.length + 1)), ((cph26 l i1 y2) : AHeap))) ∧
(someN [] 4 (fun a' => (m6 l) a' < (m6 l) i1) ⟨[(34, (.pointer (some ⟨6, 0, none⟩))), (6, (.pointer (some ⟨5, 0, none⟩))), (5, (.string (bs (l)))), (4, (.pointer (some ⟨4, 0, none⟩))), (0, (.pointer (some ⟨3, 0, none⟩))), (1, (.int .u8 0))], [], [zA, zN, zE, .cells [(.string (bs (l))), (.int .i64 0)] false, zA, .cells [(.string (bs (l))), (.slice none 0 0), (.string (bs ([]))), (.int .i64 ((i1.gap : Nat) : Int)), (.bool false), (.bool false), (.slice (some ⟨9, 0, (some 1)⟩) (i1.dots.length + 1) (i1.dots.length + 1)), (.bool true)] false, AObj.strIter (bs l) (i1.i + y2.snd), .dead, .tcells [(.int .i64 (valB 10 i1.part))] 3 (some 0), .tcells (ic (i1.dots ++ [valB 10 i1.part])) 3 (some 0)], .norm⟩ [(q60 l), (q61 l), (q62 l), (q63 l), (q64 l), (q65 l), (q66 l), (q67 l)])))))))) ∧
((z3 == 46) = false →
(((decide (z3 < 48)) = true →
∀ z4 : Int, z4 = (IntKind.i64.wrap (0 + ((i1.i : Nat) : Int))) →
 Q (.ret (.tuple ⟨[zG, (.int .i64 z4), (.int .i64 20)]⟩))) ∧
((decide (z3 < 48)) = false →
(((decide (z3 > 57)) = true →
∀ z4 : Int, z4 = (IntKind.i64.wrap (0 + ((i1.i : Nat) : Int))) →
 Q (.ret (.tuple ⟨[zG, (.int .i64 z4), (.int .i64 20)]⟩))) ∧
((decide (z3 > 57)) = false →
∀ z4 : Int, z4 = (IntKind.i32.wrap z3) →
(((some (.string (Go.Utf8.encode z4)) : Option Value) = some (.string (bs ((Go.Utf8.encode z4).data.toList)))) ∧
((aBin2 Tryd.prog BinOp.add 9 (Operand.tmp 47) (Operand.tmp 50) (.string (bs (i1.part))) (.string (bs ((Go.Utf8.encode z4).data.toList))) = some (.string (bs (i1.part ++ (Go.Utf8.encode z4).data.toList)))) ∧
(SpecK Tryd.prog 99 [(.string (bs (i1.part ++ (Go.Utf8.encode z4).data.toList)))] (cph5 l i1 y2) (.bool (dec (i1.part ++ (Go.Utf8.encode z4).data.toList))) ∧
∀ _ : Unit, True →
(((!dec (i1.part ++ (Go.Utf8.encode z4).data.toList)) = true →
∀ z5 : Int, z5 = (IntKind.i64.wrap (0 + ((i1.i : Nat) : Int))) →
 Q (.ret (.tuple ⟨[zG, (.int .i64 z5), (.int .i64 20)]⟩))) ∧
((!dec (i1.part ++ (Go.Utf8.encode z4).data.toList)) = false →
∀ z5 : Int, z5 = (IntKind.i32.wrap z3) →
(((some (.string (Go.Utf8.encode z5)) : Option Value) = some (.string (bs ((Go.Utf8.encode z5).data.toList)))) ∧
((aBin2 Tryd.prog BinOp.add 9 (Operand.tmp 58) (Operand.tmp 61) (.string (bs (i1.part))) (.string (bs ((Go.Utf8.encode z5).data.toList))) = some (.string (bs (i1.part ++ (Go.Utf8.encode z5).data.toList)))) ∧
(someN [] 4 (fun a' => (m6 l) a' < (m6 l) i1) ⟨[(34, (.pointer (some ⟨6, 0, none⟩))), (6, (.pointer (some ⟨5, 0, none⟩))), (5, (.string (bs (l)))), (4, (.pointer (some ⟨4, 0, none⟩))), (0, (.pointer (some ⟨3, 0, none⟩))), (1, (.int .u8 0))], [], [zA, zN, zE, .cells [(.string (bs (l))), (.int .i64 0)] false, zA, .cells [(.string (bs (l))), (.slice none 0 0), (.string (bs (i1.part ++ (Go.Utf8.encode z5).data.toList))), (.int .i64 ((i1.gap : Nat) : Int)), (.bool false), (.bool false), (.slice (some ⟨7, 0, (some 1)⟩) i1.dots.length i1.dots.length), (.bool true)] false, AObj.strIter (bs l) (i1.i + y2.snd), .tcells (ic i1.dots) 3 (some 0)], .norm⟩ [(q60 l), (q61 l), (q62 l), (q63 l), (q64 l), (q65 l), (q66 l), (q67 l)]))))))))))))))))) ∧
((decide (i1.i < l.length)) = false →
((aNextStr (.pointer (some ⟨6, 0, none⟩)) (cph11 l i1) = some ((.tuple ⟨[(.bool false)]⟩), ((cph11 l i1) : AHeap))) ∧
(SpecC Tryd.prog [] (.fn 86) [(.pointer (some ⟨5, 0, none⟩))] (cph11 l i1) (fun r h' => ((true) = true →
 r = (((.ret (mkA [] i1.part (((i1.gap : Nat) : Int)).toNat Bool.false Bool.false (unI (ic i1.dots)) Bool.true)), ((cph20 l i1) : AHeap)) : Res × AHeap).1 ∧
 h' = (((.ret (mkA [] i1.part (((i1.gap : Nat) : Int)).toNat Bool.false Bool.false (unI (ic i1.dots)) Bool.true)), ((cph20 l i1) : AHeap)) : Res × AHeap).2) ∧
((true) = false →
 r = (((.ret .nilIface), ([] : AHeap)) : Res × AHeap).1 ∧
 h' = (((.ret .nilIface), ([] : AHeap)) : Res × AHeap).2)) ∧
(((true) = true →
∀ z2 : Int, z2 = ((((bs l).size : Nat) : Int)) →
∀ z3 : Int, z3 = (IntKind.i64.wrap (0 + z2)) →
(((oA [] i1.part (((i1.gap : Nat) : Int)).toNat Bool.false Bool.false (unI (ic i1.dots)) Bool.true) = true →
∀ z4 : Int, z4 = ((((bs l).size : Nat) : Int)) →
(((decide (z3 < z4)) = true →
 Q (.ret (.tuple ⟨[zG, (.int .i64 z3), (.int .i64 20)]⟩))) ∧
((decide (z3 < z4)) = false →
 Q (.ret (.tuple ⟨[(bG [] i1.part (((i1.gap : Nat) : Int)).toNat Bool.false Bool.false (unI (ic i1.dots)) Bool.true), (.int .i64 0), (.int .i64 0)]⟩))))) ∧
((oA [] i1.part (((i1.gap : Nat) : Int)).toNat Bool.false Bool.false (unI (ic i1.dots)) Bool.true) = false →
 Q (.ret (.tuple ⟨[zG, (.int .i64 z3), (.int .i64 20)]⟩))))) ∧
((true) = false →
 False))))))) ∧
(∀ i1, (q67 l i1).fst →
(((decide (i1.i < l.length)) = true →
((∃ y2 : Nat × Nat, aNextStr (.pointer (some ⟨6, 0, none⟩)) (cph6 l i1) = some ((.tuple ⟨[(.bool true), (.int .i64 ((i1.i : Nat) : Int)), (.int .i32 ((y2.fst : Nat) : Int))]⟩), ((cph3 l i1 y2) : AHeap))) ∧
∀ y2 : Nat × Nat, aNextStr (.pointer (some ⟨6, 0, none⟩)) (cph6 l i1) = some ((.tuple ⟨[(.bool true), (.int .i64 ((i1.i : Nat) : Int)), (.int .i32 ((y2.fst : Nat) : Int))]⟩), ((cph3 l i1 y2) : AHeap)) →
((∃ z3 : Int, aIndex Tryd.prog 9 (.string (bs (l))) (.int .i64 ((i1.i : Nat) : Int)) = some (.int .u8 z3)) ∧
∀ z3 : Int, aIndex Tryd.prog 9 (.string (bs (l))) (.int .i64 ((i1.i : Nat) : Int)) = some (.int .u8 z3) →
(((z3 == 46) = true →
((((bs i1.part).toList == (bs []).toList) = true →
∀ z4 : Int, z4 = (IntKind.i64.wrap (0 + ((i1.i : Nat) : Int))) →
 Q (.ret (.tuple ⟨[zG, (.int .i64 z4), (.int .i64 20)]⟩))) ∧
(((bs i1.part).toList == (bs []).toList) = false →
∀ z4 : Int, z4 = (((i1.dots.length : Nat) : Int)) →
(((z4 == 3) = true →
∀ z5 : Int, z5 = (IntKind.i64.wrap (0 + ((i1.i : Nat) : Int))) →
 Q (.ret (.tuple ⟨[zG, (.int .i64 z5), (.int .i64 20)]⟩))) ∧
((z4 == 3) = false →
(SpecK Tryd.prog 101 [(.string (bs (i1.part))), (.int .i64 10)] (cph3 l i1 y2) (.int .i64 (valB 10 i1.part)) ∧
∀ _ : Unit, True →
(((some (.slice (some ⟨8, 0, (some 1)⟩) i1.dots.length i1.dots.length)) : Option Value) = (some (.slice (some ⟨8, 0, (some 1)⟩) i1.dots.length i1.dots.length))) ∧
((aAppend Tryd.prog 80 80 (.slice (some ⟨8, 0, (some 1)⟩) i1.dots.length i1.dots.length) (.slice (some ⟨9, 0, none⟩) 1 1) [zA, zN, zE, .cells [(.string (bs (l))), (.int .i64 0)] false, zA, .cells [(.string (bs (l))), (.slice (some ⟨7, 0, (some 1)⟩) i1.g.length i1.g.length), (.string (bs (i1.part))), (.int .i64 ((i1.gap : Nat) : Int)), (.bool false), (.bool false), (.slice (some ⟨8, 0, (some 1)⟩) i1.dots.length i1.dots.length), (.bool true)] false, AObj.strIter (bs l) (i1.i + y2.snd), .tcells (ic i1.g) 3 (some 0), .tcells (ic i1.dots) 3 (some 0), .tcells [(.int .i64 (valB 10 i1.part))] 3 (some 0)] = some ((.slice (some ⟨10, 0, (some 1)⟩) (i1.dots.length + 1) (i1.dots.length + 1)), ((cph24 l i1 y2) : AHeap))) ∧
(someN [] 4 (fun a' => (m6 l) a' < (m6 l) i1) ⟨[(34, (.pointer (some ⟨6, 0, none⟩))), (6, (.pointer (some ⟨5, 0, none⟩))), (5, (.string (bs (l)))), (4, (.pointer (some ⟨4, 0, none⟩))), (0, (.pointer (some ⟨3, 0, none⟩))), (1, (.int .u8 0))], [], [zA, zN, zE, .cells [(.string (bs (l))), (.int .i64 0)] false, zA, .cells [(.string (bs (l))), (.slice (some ⟨7, 0, (some 1)⟩) i1.g.length i1.g.length), (.string (bs ([]))), (.int .i64 ((i1.gap : Nat) : Int)), (.bool false), (.bool false), (.slice (some ⟨10, 0, (some 1)⟩) (i1.dots.length + 1) (i1.dots.length + 1)), (.bool true)] false, AObj.strIter (bs l) (i1.i + y2.snd), .tcells (ic i1.g) 3 (some 0), .dead, .tcells [(.int .i64 (valB 10 i1.part))] 3 (some 0), .tcells (ic (i1.dots ++ [valB 10 i1.part])) 3 (some 0)], .norm⟩ [(q60 l), (q61 l), (q62 l), (q63 l), (q64 l), (q65 l), (q66 l), (q67 l)])))))))) ∧
((z3 == 46) = false →
(((decide (z3 < 48)) = true →
∀ z4 : Int, z4 = (IntKind.i64.wrap (0 + ((i1.i : Nat) : Int))) →
 Q (.ret (.tuple ⟨[zG, (.int .i64 z4), (.int .i64 20)]⟩))) ∧
((decide (z3 < 48)) = false →
(((decide (z3 > 57)) = true →
∀ z4 : Int, z4 = (IntKind.i64.wrap (0 + ((i1.i : Nat) : Int))) →
 Q (.ret (.tuple ⟨[zG, (.int .i64 z4), (.int .i64 20)]⟩))) ∧
((decide (z3 > 57)) = false →
∀ z4 : Int, z4 = (IntKind.i32.wrap z3) →
(((some (.string (Go.Utf8.encode z4)) : Option Value) = some (.string (bs ((Go.Utf8.encode z4).data.toList)))) ∧
((aBin2 Tryd.prog BinOp.add 9 (Operand.tmp 47) (Operand.tmp 50) (.string (bs (i1.part))) (.string (bs ((Go.Utf8.encode z4).data.toList))) = some (.string (bs (i1.part ++ (Go.Utf8.encode z4).data.toList)))) ∧
(SpecK Tryd.prog 99 [(.string (bs (i1.part ++ (Go.Utf8.encode z4).data.toList)))] (cph3 l i1 y2) (.bool (dec (i1.part ++ (Go.Utf8.encode z4).data.toList))) ∧
∀ _ : Unit, True →
(((!dec (i1.part ++ (Go.Utf8.encode z4).data.toList)) = true →
∀ z5 : Int, z5 = (IntKind.i64.wrap (0 + ((i1.i : Nat) : Int))) →
 Q (.ret (.tuple ⟨[zG, (.int .i64 z5), (.int .i64 20)]⟩))) ∧
((!dec (i1.part ++ (Go.Utf8.encode z4).data.toList)) = false →
∀ z5 : Int, z5 = (IntKind.i32.wrap z3) →
(((some (.string (Go.Utf8.encode z5)) : Option Value) = some (.string (bs ((Go.Utf8.encode z5).data.toList)))) ∧
((aBin2 Tryd.prog BinOp.add 9 (Operand.tmp 58) (Operand.tmp 61) (.string (bs (i1.part))) (.string (bs ((Go.Utf8.encode z5).data.toList))) = some (.string (bs (i1.part ++ (Go.Utf8.encode z5).data.toList)))) ∧
(someN [] 4 (fun a' => (m6 l) a' < (m6 l) i1) ⟨[(34, (.pointer (some ⟨6, 0, none⟩))), (6, (.pointer (some ⟨5, 0, none⟩))), (5, (.string (bs (l)))), (4, (.pointer (some ⟨4, 0, none⟩))), (0, (.pointer (some ⟨3, 0, none⟩))), (1, (.int .u8 0))], [], [zA, zN, zE, .cells [(.string (bs (l))), (.int .i64 0)] false, zA, .cells [(.string (bs (l))), (.slice (some ⟨7, 0, (some 1)⟩) i1.g.length i1.g.length), (.string (bs (i1.part ++ (Go.Utf8.encode z5).data.toList))), (.int .i64 ((i1.gap : Nat) : Int)), (.bool false), (.bool false), (.slice (some ⟨8, 0, (some 1)⟩) i1.dots.length i1.dots.length), (.bool true)] false, AObj.strIter (bs l) (i1.i + y2.snd), .tcells (ic i1.g) 3 (some 0), .tcells (ic i1.dots) 3 (some 0)], .norm⟩ [(q60 l), (q61 l), (q62 l), (q63 l), (q64 l), (q65 l), (q66 l), (q67 l)]))))))))))))))))) ∧
((decide (i1.i < l.length)) = false →
((aNextStr (.pointer (some ⟨6, 0, none⟩)) (cph6 l i1) = some ((.tuple ⟨[(.bool false)]⟩), ((cph6 l i1) : AHeap))) ∧
(SpecC Tryd.prog [] (.fn 86) [(.pointer (some ⟨5, 0, none⟩))] (cph6 l i1) (fun r h' => ((true) = true →
 r = (((.ret (mkA (unI (ic i1.g)) i1.part (((i1.gap : Nat) : Int)).toNat Bool.false Bool.false (unI (ic i1.dots)) Bool.true)), ((cph17 l i1) : AHeap)) : Res × AHeap).1 ∧
 h' = (((.ret (mkA (unI (ic i1.g)) i1.part (((i1.gap : Nat) : Int)).toNat Bool.false Bool.false (unI (ic i1.dots)) Bool.true)), ((cph17 l i1) : AHeap)) : Res × AHeap).2) ∧
((true) = false →
 r = (((.ret .nilIface), ([] : AHeap)) : Res × AHeap).1 ∧
 h' = (((.ret .nilIface), ([] : AHeap)) : Res × AHeap).2)) ∧
(((true) = true →
∀ z2 : Int, z2 = ((((bs l).size : Nat) : Int)) →
∀ z3 : Int, z3 = (IntKind.i64.wrap (0 + z2)) →
(((oA (unI (ic i1.g)) i1.part (((i1.gap : Nat) : Int)).toNat Bool.false Bool.false (unI (ic i1.dots)) Bool.true) = true →
∀ z4 : Int, z4 = ((((bs l).size : Nat) : Int)) →
(((decide (z3 < z4)) = true →
 Q (.ret (.tuple ⟨[zG, (.int .i64 z3), (.int .i64 20)]⟩))) ∧
((decide (z3 < z4)) = false →
 Q (.ret (.tuple ⟨[(bG (unI (ic i1.g)) i1.part (((i1.gap : Nat) : Int)).toNat Bool.false Bool.false (unI (ic i1.dots)) Bool.true), (.int .i64 0), (.int .i64 0)]⟩))))) ∧
((oA (unI (ic i1.g)) i1.part (((i1.gap : Nat) : Int)).toNat Bool.false Bool.false (unI (ic i1.dots)) Bool.true) = false →
 Q (.ret (.tuple ⟨[zG, (.int .i64 z3), (.int .i64 20)]⟩))))) ∧
((true) = false →
 False)))))))))) =
    runS Tryd.prog [] false [102, 101, 99, 86, 103, 100] 0 (SpecC Tryd.prog []) 20 18 [.string (bs l)] [] .norm (.skip 19 (.val (.string (bs (List.drop 0 l))) (.skip 10 (.invN [34, 6, 5, 4, 0, 1] _ (m6 l) [(q60 l), (q61 l), (q62 l), (q63 l), (q64 l), (q65 l), (q66 l), (q67 l)] (fun k => match k with | 0 => fun i1 => .skip 0 (.byB (decide (i1.i < l.length)) (.skip 0 (.genE (Nat × Nat) (fun y2 => ((.tuple ⟨[(.bool true), (.int .i64 ((i1.i : Nat) : Int)), (.int .i32 ((y2.fst : Nat) : Int))]⟩), ((cph2 l i1 y2) : AHeap))) fun y2 => .skip 7 (.gen (Int) (fun x => .int .u8 x) fun z3 => .skip 14 (.ask (.skip 9 (.ask (.skip 11 (.call Unit (ck (.int .i64 (valB 16 i1.part)) (cph2 l i1 y2)) fun _ => .skip 9 (.call Unit (ck (.int .i64 (rmI (0 + 1) (((i1.gap : Nat) : Int)).toNat)) (cph29 l i1 y2)) fun _ => .skip 0 (.ask (.skip 10 (.ask (.skip 29 (.ask (.skip 11 (.all (fun _z4 => .go))) (.skip 6 (.ask (.go) (.skip 0 .go))))) (.skip 23 (.ask (.skip 11 (.all (fun _z4 => .go))) (.skip 6 (.ask (.skip 0 .go) (.go))))))) (.skip 22 (.ask (.go) (.go))))))) (.skip 6 (.ask (.skip 24 (.ask (.go) (.skip 32 (.all (fun _z4 => .go))))) (.skip 46 (.all (fun _z4 => .go))))))) (.skip 3 (.ask (.skip 6 (.call Unit (ck (.bool (dec i1.part)) (cph2 l i1 y2)) fun _ => .skip 0 (.ask (.skip 14 (.all (fun _z4 => .go))) (.skip 4 (.call Unit (ck (.bool (mdB 0 (((i1.gap : Nat) : Int)).toNat)) (cph2 l i1 y2)) fun _ => .skip 1 (.ask (.skip 10 (.all (fun _z4 => .go))) (.skip 12 (.call Unit (ck (.int .i64 (valB 10 i1.part)) (cph32 l i1 y2)) fun _ => .go)))))))) (.skip 3 (.call Unit (ck (.int .i64 (hxI z3)) (cph2 l i1 y2)) fun _ => .skip 0 (.ask (.skip 15 (.all (fun _z4 => .go))) (.skip 4 (.call Unit (ck (.int .i64 (rmI 0 (((i1.gap : Nat) : Int)).toNat)) (cph2 l i1 y2)) fun _ => .skip 1 (.ask (.skip 11 (.all (fun _z4 => .go))) (cps2 i1))))))))))))) (.skip 0 (.put (.tuple ⟨[(.bool false)]⟩) (cph7 l i1) (.skip 3 (.call2 (true) ((.ret (.tuple ⟨[(.agg ⟨[(.int .u8 (bA [] i1.part (((i1.gap : Nat) : Int)).toNat Bool.false Bool.false [] Bool.false 0)), (.int .u8 (bA [] i1.part (((i1.gap : Nat) : Int)).toNat Bool.false Bool.false [] Bool.false 1)), (.int .u8 (bA [] i1.part (((i1.gap : Nat) : Int)).toNat Bool.false Bool.false [] Bool.false 2)), (.int .u8 (bA [] i1.part (((i1.gap : Nat) : Int)).toNat Bool.false Bool.false [] Bool.false 3)), (.int .u8 (bA [] i1.part (((i1.gap : Nat) : Int)).toNat Bool.false Bool.false [] Bool.false 4)), (.int .u8 (bA [] i1.part (((i1.gap : Nat) : Int)).toNat Bool.false Bool.false [] Bool.false 5)), (.int .u8 (bA [] i1.part (((i1.gap : Nat) : Int)).toNat Bool.false Bool.false [] Bool.false 6)), (.int .u8 (bA [] i1.part (((i1.gap : Nat) : Int)).toNat Bool.false Bool.false [] Bool.false 7)), (.int .u8 (bA [] i1.part (((i1.gap : Nat) : Int)).toNat Bool.false Bool.false [] Bool.false 8)), (.int .u8 (bA [] i1.part (((i1.gap : Nat) : Int)).toNat Bool.false Bool.false [] Bool.false 9)), (.int .u8 (bA [] i1.part (((i1.gap : Nat) : Int)).toNat Bool.false Bool.false [] Bool.false 10)), (.int .u8 (bA [] i1.part (((i1.gap : Nat) : Int)).toNat Bool.false Bool.false [] Bool.false 11)), (.int .u8 (bA [] i1.part (((i1.gap : Nat) : Int)).toNat Bool.false Bool.false [] Bool.false 12)), (.int .u8 (bA [] i1.part (((i1.gap : Nat) : Int)).toNat Bool.false Bool.false [] Bool.false 13)), (.int .u8 (bA [] i1.part (((i1.gap : Nat) : Int)).toNat Bool.false Bool.false [] Bool.false 14)), (.int .u8 (bA [] i1.part (((i1.gap : Nat) : Int)).toNat Bool.false Bool.false [] Bool.false 15))]⟩), (.bool (oA [] i1.part (((i1.gap : Nat) : Int)).toNat Bool.false Bool.false [] Bool.false))]⟩)), ((cph7 l i1) : AHeap)) ((.ret .nilIface), ([] : AHeap)) cps0 (.skip 0 .go)))))) | 1 => fun i1 => .skip 0 (.byB (decide (i1.i < l.length)) (.skip 0 (.genE (Nat × Nat) (fun y2 => ((.tuple ⟨[(.bool true), (.int .i64 ((i1.i : Nat) : Int)), (.int .i32 ((y2.fst : Nat) : Int))]⟩), ((cph25 l i1 y2) : AHeap))) fun _z2 => .skip 7 (.gen (Int) (fun x => .int .u8 x) fun _z3 => .skip 12 (.ask (.skip 9 (.all (fun _z4 => .go))) (.go))))) (.skip 0 (.put (.tuple ⟨[(.bool false)]⟩) (cph10 l i1) (.skip 3 (.call2 (true) ((.ret (.tuple ⟨[(.agg ⟨[(.int .u8 (bA [] [] (Int.toNat 0) Bool.false Bool.true [] Bool.false 0)), (.int .u8 (bA [] [] (Int.toNat 0) Bool.false Bool.true [] Bool.false 1)), (.int .u8 (bA [] [] (Int.toNat 0) Bool.false Bool.true [] Bool.false 2)), (.int .u8 (bA [] [] (Int.toNat 0) Bool.false Bool.true [] Bool.false 3)), (.int .u8 (bA [] [] (Int.toNat 0) Bool.false Bool.true [] Bool.false 4)), (.int .u8 (bA [] [] (Int.toNat 0) Bool.false Bool.true [] Bool.false 5)), (.int .u8 (bA [] [] (Int.toNat 0) Bool.false Bool.true [] Bool.false 6)), (.int .u8 (bA [] [] (Int.toNat 0) Bool.false Bool.true [] Bool.false 7)), (.int .u8 (bA [] [] (Int.toNat 0) Bool.false Bool.true [] Bool.false 8)), (.int .u8 (bA [] [] (Int.toNat 0) Bool.false Bool.true [] Bool.false 9)), (.int .u8 (bA [] [] (Int.toNat 0) Bool.false Bool.true [] Bool.false 10)), (.int .u8 (bA [] [] (Int.toNat 0) Bool.false Bool.true [] Bool.false 11)), (.int .u8 (bA [] [] (Int.toNat 0) Bool.false Bool.true [] Bool.false 12)), (.int .u8 (bA [] [] (Int.toNat 0) Bool.false Bool.true [] Bool.false 13)), (.int .u8 (bA [] [] (Int.toNat 0) Bool.false Bool.true [] Bool.false 14)), (.int .u8 (bA [] [] (Int.toNat 0) Bool.false Bool.true [] Bool.false 15))]⟩), (.bool (oA [] [] (Int.toNat 0) Bool.false Bool.true [] Bool.false))]⟩)), ((cph10 l i1) : AHeap)) ((.ret .nilIface), ([] : AHeap)) cps0 (.skip 0 .go)))))) | 2 => fun i1 => .skip 0 (.byB (decide (i1.i < l.length)) (.skip 0 (.genE (Nat × Nat) (fun y2 => ((.tuple ⟨[(.bool true), (.int .i64 ((i1.i : Nat) : Int)), (.int .i32 ((y2.fst : Nat) : Int))]⟩), ((cph0 l i1 y2) : AHeap))) fun y2 => .skip 7 (.gen (Int) (fun x => .int .u8 x) fun z3 => .skip 14 (.ask (.skip 9 (.ask (.skip 11 (.call Unit (ck (.int .i64 (valB 16 i1.part)) (cph0 l i1 y2)) fun _ => .skip 0 (.put (.slice (some ⟨9, 0, (some 1)⟩) (i1.g.length + 1) (i1.g.length + 1)) (cph28 l i1 y2) (.skip 8 (.call Unit (ck (.int .i64 (rmI (i1.g.length + 1) (((i1.gap : Nat) : Int)).toNat)) (cph27 l i1 y2)) fun _ => .skip 0 (.ask (.skip 10 (.ask (.skip 13 (.ask (.skip 17 (.ask (.skip 12 (.ask (.skip 11 (.all (fun _z4 => .go))) (.skip 0 .go))) (.skip 0 .go))) (.skip 15 (.ask (.skip 11 (.all (fun _z4 => .go))) (.skip 6 (.ask (.skip 12 (.ask (.skip 0 .go) (.go))) (.skip 0 .go))))))) (.skip 23 (.ask (.skip 11 (.all (fun _z4 => .go))) (.skip 6 (.ask (.skip 0 .go) (.go))))))) (.skip 22 (.ask (.skip 12 (.ask (.skip 11 (.all (fun _z4 => .go))) (.go))) (.go))))))))) (.skip 6 (.ask (.skip 10 (.all (fun _z4 => .skip 1 (.ask (.skip 11 (.ask (.go) (.skip 32 (.all (fun _z5 => .go))))) (.skip 39 (.all (fun _z5 => .go))))))) (.skip 46 (.all (fun _z4 => .go))))))) (.skip 3 (.ask (.skip 6 (.call Unit (ck (.bool (dec i1.part)) (cph0 l i1 y2)) fun _ => .skip 0 (.ask (.skip 14 (.all (fun _z4 => .go))) (.skip 4 (.call Unit (ck (.bool (mdB i1.g.length (((i1.gap : Nat) : Int)).toNat)) (cph0 l i1 y2)) fun _ => .skip 1 (.ask (.skip 10 (.all (fun _z4 => .go))) (.skip 12 (.call Unit (ck (.int .i64 (valB 10 i1.part)) (cph30 l i1 y2)) fun _ => .go)))))))) (.skip 3 (.call Unit (ck (.int .i64 (hxI z3)) (cph0 l i1 y2)) fun _ => .skip 0 (.ask (.skip 15 (.all (fun _z4 => .go))) (.skip 4 (.call Unit (ck (.int .i64 (rmI i1.g.length (((i1.gap : Nat) : Int)).toNat)) (cph0 l i1 y2)) fun _ => .skip 1 (.ask (.skip 11 (.all (fun _z4 => .go))) (cps2 i1))))))))))))) (.skip 0 (.put (.tuple ⟨[(.bool false)]⟩) (cph12 l i1) (.skip 3 (.call2 (true) ((.ret (.tuple ⟨[(.agg ⟨[(.int .u8 (bA (unI (ic i1.g)) i1.part (((i1.gap : Nat) : Int)).toNat Bool.false Bool.false [] Bool.false 0)), (.int .u8 (bA (unI (ic i1.g)) i1.part (((i1.gap : Nat) : Int)).toNat Bool.false Bool.false [] Bool.false 1)), (.int .u8 (bA (unI (ic i1.g)) i1.part (((i1.gap : Nat) : Int)).toNat Bool.false Bool.false [] Bool.false 2)), (.int .u8 (bA (unI (ic i1.g)) i1.part (((i1.gap : Nat) : Int)).toNat Bool.false Bool.false [] Bool.false 3)), (.int .u8 (bA (unI (ic i1.g)) i1.part (((i1.gap : Nat) : Int)).toNat Bool.false Bool.false [] Bool.false 4)), (.int .u8 (bA (unI (ic i1.g)) i1.part (((i1.gap : Nat) : Int)).toNat Bool.false Bool.false [] Bool.false 5)), (.int .u8 (bA (unI (ic i1.g)) i1.part (((i1.gap : Nat) : Int)).toNat Bool.false Bool.false [] Bool.false 6)), (.int .u8 (bA (unI (ic i1.g)) i1.part (((i1.gap : Nat) : Int)).toNat Bool.false Bool.false [] Bool.false 7)), (.int .u8 (bA (unI (ic i1.g)) i1.part (((i1.gap : Nat) : Int)).toNat Bool.false Bool.false [] Bool.false 8)), (.int .u8 (bA (unI (ic i1.g)) i1.part (((i1.gap : Nat) : Int)).toNat Bool.false Bool.false [] Bool.false 9)), (.int .u8 (bA (unI (ic i1.g)) i1.part (((i1.gap : Nat) : Int)).toNat Bool.false Bool.false [] Bool.false 10)), (.int .u8 (bA (unI (ic i1.g)) i1.part (((i1.gap : Nat) : Int)).toNat Bool.false Bool.false [] Bool.false 11)), (.int .u8 (bA (unI (ic i1.g)) i1.part (((i1.gap : Nat) : Int)).toNat Bool.false Bool.false [] Bool.false 12)), (.int .u8 (bA (unI (ic i1.g)) i1.part (((i1.gap : Nat) : Int)).toNat Bool.false Bool.false [] Bool.false 13)), (.int .u8 (bA (unI (ic i1.g)) i1.part (((i1.gap : Nat) : Int)).toNat Bool.false Bool.false [] Bool.false 14)), (.int .u8 (bA (unI (ic i1.g)) i1.part (((i1.gap : Nat) : Int)).toNat Bool.false Bool.false [] Bool.false 15))]⟩), (.bool (oA (unI (ic i1.g)) i1.part (((i1.gap : Nat) : Int)).toNat Bool.false Bool.false [] Bool.false))]⟩)), ((cph21 l i1) : AHeap)) ((.ret .nilIface), ([] : AHeap)) cps0 (.skip 0 .go)))))) | 3 => fun i1 => .skip 0 (.byB (decide (i1.i < l.length)) (.skip 0 (.genE (Nat × Nat) (fun y2 => ((.tuple ⟨[(.bool true), (.int .i64 ((i1.i : Nat) : Int)), (.int .i32 ((y2.fst : Nat) : Int))]⟩), ((cph1 l i1 y2) : AHeap))) fun y2 => .skip 7 (.gen (Int) (fun x => .int .u8 x) fun z3 => .skip 14 (.ask (.skip 16 (.ask (.skip 10 (.all (fun _z4 => .skip 1 (.ask (.skip 11 (.ask (.skip 29 (.ask (.skip 12 (.all (fun _z5 => .skip 0 (.all (fun _z6 => .go))))) (.skip 0 .go))) (.skip 24 (.ask (.skip 0 .go) (.skip 12 (.all (fun _z5 => .go))))))) (.skip 31 (.ask (.skip 12 (.all (fun _z5 => .skip 0 (.all (fun _z6 => .go))))) (.skip 12 (.all (fun _z5 => .go))))))))) (.skip 38 (.ask (.skip 12 (.all (fun _z4 => .skip 0 (.all (fun _z5 => .go))))) (.skip 12 (.all (fun _z4 => .go))))))) (.skip 3 (.ask (.skip 6 (.call Unit (ck (.bool (dec [])) (cph1 l i1 y2)) fun _ => .skip 0 (.ask (.skip 14 (.all (fun _z4 => .go))) (.skip 4 (.call Unit (ck (.bool (mdB i1.g.length (((i1.gap : Nat) : Int)).toNat)) (cph1 l i1 y2)) fun _ => .skip 1 (.ask (.skip 10 (.all (fun _z4 => .go))) (.skip 12 (.call Unit (ck (.int .i64 (valB 10 [])) (cph31 l i1 y2)) fun _ => .go)))))))) (.skip 3 (.call Unit (ck (.int .i64 (hxI z3)) (cph1 l i1 y2)) fun _ => .skip 0 (.ask (.skip 15 (.all (fun _z4 => .go))) (.skip 4 (.call Unit (ck (.int .i64 (rmI i1.g.length (((i1.gap : Nat) : Int)).toNat)) (cph1 l i1 y2)) fun _ => .skip 1 (.ask (.skip 11 (.all (fun _z4 => .go))) (.skip 19 (.all (fun z4 => .skip 0 (.val (.string (bs ((Go.Utf8.encode z4).data.toList))) (.skip 0 (.val (.string (bs ((Go.Utf8.encode z4).data.toList))) (.go))))))))))))))))))) (.skip 0 (.put (.tuple ⟨[(.bool false)]⟩) (cph13 l i1) (.skip 3 (.call2 (true) ((.ret (.tuple ⟨[(.agg ⟨[(.int .u8 (bA (unI (ic i1.g)) [] (((i1.gap : Nat) : Int)).toNat Bool.true Bool.false [] Bool.false 0)), (.int .u8 (bA (unI (ic i1.g)) [] (((i1.gap : Nat) : Int)).toNat Bool.true Bool.false [] Bool.false 1)), (.int .u8 (bA (unI (ic i1.g)) [] (((i1.gap : Nat) : Int)).toNat Bool.true Bool.false [] Bool.false 2)), (.int .u8 (bA (unI (ic i1.g)) [] (((i1.gap : Nat) : Int)).toNat Bool.true Bool.false [] Bool.false 3)), (.int .u8 (bA (unI (ic i1.g)) [] (((i1.gap : Nat) : Int)).toNat Bool.true Bool.false [] Bool.false 4)), (.int .u8 (bA (unI (ic i1.g)) [] (((i1.gap : Nat) : Int)).toNat Bool.true Bool.false [] Bool.false 5)), (.int .u8 (bA (unI (ic i1.g)) [] (((i1.gap : Nat) : Int)).toNat Bool.true Bool.false [] Bool.false 6)), (.int .u8 (bA (unI (ic i1.g)) [] (((i1.gap : Nat) : Int)).toNat Bool.true Bool.false [] Bool.false 7)), (.int .u8 (bA (unI (ic i1.g)) [] (((i1.gap : Nat) : Int)).toNat Bool.true Bool.false [] Bool.false 8)), (.int .u8 (bA (unI (ic i1.g)) [] (((i1.gap : Nat) : Int)).toNat Bool.true Bool.false [] Bool.false 9)), (.int .u8 (bA (unI (ic i1.g)) [] (((i1.gap : Nat) : Int)).toNat Bool.true Bool.false [] Bool.false 10)), (.int .u8 (bA (unI (ic i1.g)) [] (((i1.gap : Nat) : Int)).toNat Bool.true Bool.false [] Bool.false 11)), (.int .u8 (bA (unI (ic i1.g)) [] (((i1.gap : Nat) : Int)).toNat Bool.true Bool.false [] Bool.false 12)), (.int .u8 (bA (unI (ic i1.g)) [] (((i1.gap : Nat) : Int)).toNat Bool.true Bool.false [] Bool.false 13)), (.int .u8 (bA (unI (ic i1.g)) [] (((i1.gap : Nat) : Int)).toNat Bool.true Bool.false [] Bool.false 14)), (.int .u8 (bA (unI (ic i1.g)) [] (((i1.gap : Nat) : Int)).toNat Bool.true Bool.false [] Bool.false 15))]⟩), (.bool (oA (unI (ic i1.g)) [] (((i1.gap : Nat) : Int)).toNat Bool.true Bool.false [] Bool.false))]⟩)), ((cph22 l i1) : AHeap)) ((.ret .nilIface), ([] : AHeap)) cps0 (.skip 0 .go)))))) | 4 => fun i1 => .skip 0 (.byB (decide (i1.i < l.length)) (.skip 0 (.genE (Nat × Nat) (fun y2 => ((.tuple ⟨[(.bool true), (.int .i64 ((i1.i : Nat) : Int)), (.int .i32 ((y2.fst : Nat) : Int))]⟩), ((cph8 l i1 y2) : AHeap))) fun y2 => .skip 7 (.gen (Int) (fun x => .int .u8 x) fun _z3 => .skip 18 (.ask (.skip 5 (.ask (.skip 18 (.all (fun _z4 => .go))) (.skip 25 (.call Unit (ck (.int .i64 (valB 10 i1.part)) (cph8 l i1 y2)) fun _ => .go)))) (.skip 2 (.ask (.skip 26 (.all (fun _z4 => .go))) (.skip 4 (.ask (.skip 23 (.all (fun _z4 => .go))) (.skip 13 (.all (fun z4 => .skip 1 (.val (.string (bs ((Go.Utf8.encode z4).data.toList))) (.skip 1 (.val (.string (bs (i1.part ++ (Go.Utf8.encode z4).data.toList))) (.skip 1 (.call Unit (ck (.bool (dec (i1.part ++ (Go.Utf8.encode z4).data.toList))) (cph8 l i1 y2)) fun _ => .skip 1 (.ask (.skip 11 (.all (fun _z5 => .go))) (cps1 i1)))))))))))))))))) (.skip 0 (.put (.tuple ⟨[(.bool false)]⟩) (cph14 l i1) (.skip 3 (.call2 (true) ((.ret (.tuple ⟨[(.agg ⟨[(.int .u8 (bA [] i1.part (((i1.gap : Nat) : Int)).toNat Bool.false Bool.false (unI [Go.Value.int IntKind.i64 i1.d]) Bool.true 0)), (.int .u8 (bA [] i1.part (((i1.gap : Nat) : Int)).toNat Bool.false Bool.false (unI [Go.Value.int IntKind.i64 i1.d]) Bool.true 1)), (.int .u8 (bA [] i1.part (((i1.gap : Nat) : Int)).toNat Bool.false Bool.false (unI [Go.Value.int IntKind.i64 i1.d]) Bool.true 2)), (.int .u8 (bA [] i1.part (((i1.gap : Nat) : Int)).toNat Bool.false Bool.false (unI [Go.Value.int IntKind.i64 i1.d]) Bool.true 3)), (.int .u8 (bA [] i1.part (((i1.gap : Nat) : Int)).toNat Bool.false Bool.false (unI [Go.Value.int IntKind.i64 i1.d]) Bool.true 4)), (.int .u8 (bA [] i1.part (((i1.gap : Nat) : Int)).toNat Bool.false Bool.false (unI [Go.Value.int IntKind.i64 i1.d]) Bool.true 5)), (.int .u8 (bA [] i1.part (((i1.gap : Nat) : Int)).toNat Bool.false Bool.false (unI [Go.Value.int IntKind.i64 i1.d]) Bool.true 6)), (.int .u8 (bA [] i1.part (((i1.gap : Nat) : Int)).toNat Bool.false Bool.false (unI [Go.Value.int IntKind.i64 i1.d]) Bool.true 7)), (.int .u8 (bA [] i1.part (((i1.gap : Nat) : Int)).toNat Bool.false Bool.false (unI [Go.Value.int IntKind.i64 i1.d]) Bool.true 8)), (.int .u8 (bA [] i1.part (((i1.gap : Nat) : Int)).toNat Bool.false Bool.false (unI [Go.Value.int IntKind.i64 i1.d]) Bool.true 9)), (.int .u8 (bA [] i1.part (((i1.gap : Nat) : Int)).toNat Bool.false Bool.false (unI [Go.Value.int IntKind.i64 i1.d]) Bool.true 10)), (.int .u8 (bA [] i1.part (((i1.gap : Nat) : Int)).toNat Bool.false Bool.false (unI [Go.Value.int IntKind.i64 i1.d]) Bool.true 11)), (.int .u8 (bA [] i1.part (((i1.gap : Nat) : Int)).toNat Bool.false Bool.false (unI [Go.Value.int IntKind.i64 i1.d]) Bool.true 12)), (.int .u8 (bA [] i1.part (((i1.gap : Nat) : Int)).toNat Bool.false Bool.false (unI [Go.Value.int IntKind.i64 i1.d]) Bool.true 13)), (.int .u8 (bA [] i1.part (((i1.gap : Nat) : Int)).toNat Bool.false Bool.false (unI [Go.Value.int IntKind.i64 i1.d]) Bool.true 14)), (.int .u8 (bA [] i1.part (((i1.gap : Nat) : Int)).toNat Bool.false Bool.false (unI [Go.Value.int IntKind.i64 i1.d]) Bool.true 15))]⟩), (.bool (oA [] i1.part (((i1.gap : Nat) : Int)).toNat Bool.false Bool.false (unI [Go.Value.int IntKind.i64 i1.d]) Bool.true))]⟩)), ((cph23 l i1) : AHeap)) ((.ret .nilIface), ([] : AHeap)) cps0 (.skip 0 .go)))))) | 5 => fun i1 => .skip 0 (.byB (decide (i1.i < l.length)) (.skip 0 (.genE (Nat × Nat) (fun y2 => ((.tuple ⟨[(.bool true), (.int .i64 ((i1.i : Nat) : Int)), (.int .i32 ((y2.fst : Nat) : Int))]⟩), ((cph4 l i1 y2) : AHeap))) fun y2 => .skip 7 (.gen (Int) (fun x => .int .u8 x) fun _z3 => .skip 18 (.ask (.skip 5 (.ask (.skip 18 (.all (fun _z4 => .go))) (.skip 25 (.call Unit (ck (.int .i64 (valB 10 i1.part)) (cph4 l i1 y2)) fun _ => .go)))) (.skip 2 (.ask (.skip 26 (.all (fun _z4 => .go))) (.skip 4 (.ask (.skip 23 (.all (fun _z4 => .go))) (.skip 13 (.all (fun z4 => .skip 1 (.val (.string (bs ((Go.Utf8.encode z4).data.toList))) (.skip 1 (.val (.string (bs (i1.part ++ (Go.Utf8.encode z4).data.toList))) (.skip 1 (.call Unit (ck (.bool (dec (i1.part ++ (Go.Utf8.encode z4).data.toList))) (cph4 l i1 y2)) fun _ => .skip 1 (.ask (.skip 11 (.all (fun _z5 => .go))) (cps1 i1)))))))))))))))))) (.skip 0 (.put (.tuple ⟨[(.bool false)]⟩) (cph9 l i1) (.skip 3 (.call2 (true) ((.ret (.tuple ⟨[(.agg ⟨[(.int .u8 (bA (unI (ic i1.g)) i1.part (((i1.gap : Nat) : Int)).toNat Bool.false Bool.false (unI [Go.Value.int IntKind.i64 i1.d]) Bool.true 0)), (.int .u8 (bA (unI (ic i1.g)) i1.part (((i1.gap : Nat) : Int)).toNat Bool.false Bool.false (unI [Go.Value.int IntKind.i64 i1.d]) Bool.true 1)), (.int .u8 (bA (unI (ic i1.g)) i1.part (((i1.gap : Nat) : Int)).toNat Bool.false Bool.false (unI [Go.Value.int IntKind.i64 i1.d]) Bool.true 2)), (.int .u8 (bA (unI (ic i1.g)) i1.part (((i1.gap : Nat) : Int)).toNat Bool.false Bool.false (unI [Go.Value.int IntKind.i64 i1.d]) Bool.true 3)), (.int .u8 (bA (unI (ic i1.g)) i1.part (((i1.gap : Nat) : Int)).toNat Bool.false Bool.false (unI [Go.Value.int IntKind.i64 i1.d]) Bool.true 4)), (.int .u8 (bA (unI (ic i1.g)) i1.part (((i1.gap : Nat) : Int)).toNat Bool.false Bool.false (unI [Go.Value.int IntKind.i64 i1.d]) Bool.true 5)), (.int .u8 (bA (unI (ic i1.g)) i1.part (((i1.gap : Nat) : Int)).toNat Bool.false Bool.false (unI [Go.Value.int IntKind.i64 i1.d]) Bool.true 6)), (.int .u8 (bA (unI (ic i1.g)) i1.part (((i1.gap : Nat) : Int)).toNat Bool.false Bool.false (unI [Go.Value.int IntKind.i64 i1.d]) Bool.true 7)), (.int .u8 (bA (unI (ic i1.g)) i1.part (((i1.gap : Nat) : Int)).toNat Bool.false Bool.false (unI [Go.Value.int IntKind.i64 i1.d]) Bool.true 8)), (.int .u8 (bA (unI (ic i1.g)) i1.part (((i1.gap : Nat) : Int)).toNat Bool.false Bool.false (unI [Go.Value.int IntKind.i64 i1.d]) Bool.true 9)), (.int .u8 (bA (unI (ic i1.g)) i1.part (((i1.gap : Nat) : Int)).toNat Bool.false Bool.false (unI [Go.Value.int IntKind.i64 i1.d]) Bool.true 10)), (.int .u8 (bA (unI (ic i1.g)) i1.part (((i1.gap : Nat) : Int)).toNat Bool.false Bool.false (unI [Go.Value.int IntKind.i64 i1.d]) Bool.true 11)), (.int .u8 (bA (unI (ic i1.g)) i1.part (((i1.gap : Nat) : Int)).toNat Bool.false Bool.false (unI [Go.Value.int IntKind.i64 i1.d]) Bool.true 12)), (.int .u8 (bA (unI (ic i1.g)) i1.part (((i1.gap : Nat) : Int)).toNat Bool.false Bool.false (unI [Go.Value.int IntKind.i64 i1.d]) Bool.true 13)), (.int .u8 (bA (unI (ic i1.g)) i1.part (((i1.gap : Nat) : Int)).toNat Bool.false Bool.false (unI [Go.Value.int IntKind.i64 i1.d]) Bool.true 14)), (.int .u8 (bA (unI (ic i1.g)) i1.part (((i1.gap : Nat) : Int)).toNat Bool.false Bool.false (unI [Go.Value.int IntKind.i64 i1.d]) Bool.true 15))]⟩), (.bool (oA (unI (ic i1.g)) i1.part (((i1.gap : Nat) : Int)).toNat Bool.false Bool.false (unI [Go.Value.int IntKind.i64 i1.d]) Bool.true))]⟩)), ((cph18 l i1) : AHeap)) ((.ret .nilIface), ([] : AHeap)) cps0 (.skip 0 .go)))))) | 6 => fun i1 => .skip 0 (.byB (decide (i1.i < l.length)) (.skip 0 (.genE (Nat × Nat) (fun y2 => ((.tuple ⟨[(.bool true), (.int .i64 ((i1.i : Nat) : Int)), (.int .i32 ((y2.fst : Nat) : Int))]⟩), ((cph5 l i1 y2) : AHeap))) fun y2 => .skip 7 (.gen (Int) (fun x => .int .u8 x) fun _z3 => .skip 18 (.ask (.skip 5 (.ask (.skip 18 (.all (fun _z4 => .go))) (.skip 10 (.all (fun _z4 => .skip 1 (.ask (.skip 11 (.all (fun _z5 => .go))) (.skip 12 (.call Unit (ck (.int .i64 (valB 10 i1.part)) (cph5 l i1 y2)) fun _ => .skip 0 (.put (.slice (some ⟨9, 0, (some 1)⟩) (i1.dots.length + 1) (i1.dots.length + 1)) (cph26 l i1 y2) (.go)))))))))) (.skip 2 (.ask (.skip 26 (.all (fun _z4 => .go))) (.skip 4 (.ask (.skip 23 (.all (fun _z4 => .go))) (.skip 13 (.all (fun z4 => .skip 1 (.val (.string (bs ((Go.Utf8.encode z4).data.toList))) (.skip 1 (.val (.string (bs (i1.part ++ (Go.Utf8.encode z4).data.toList))) (.skip 1 (.call Unit (ck (.bool (dec (i1.part ++ (Go.Utf8.encode z4).data.toList))) (cph5 l i1 y2)) fun _ => .skip 1 (.ask (.skip 11 (.all (fun _z5 => .go))) (cps1 i1)))))))))))))))))) (.skip 0 (.put (.tuple ⟨[(.bool false)]⟩) (cph11 l i1) (.skip 3 (.call2 (true) ((.ret (.tuple ⟨[(.agg ⟨[(.int .u8 (bA [] i1.part (((i1.gap : Nat) : Int)).toNat Bool.false Bool.false (unI (ic i1.dots)) Bool.true 0)), (.int .u8 (bA [] i1.part (((i1.gap : Nat) : Int)).toNat Bool.false Bool.false (unI (ic i1.dots)) Bool.true 1)), (.int .u8 (bA [] i1.part (((i1.gap : Nat) : Int)).toNat Bool.false Bool.false (unI (ic i1.dots)) Bool.true 2)), (.int .u8 (bA [] i1.part (((i1.gap : Nat) : Int)).toNat Bool.false Bool.false (unI (ic i1.dots)) Bool.true 3)), (.int .u8 (bA [] i1.part (((i1.gap : Nat) : Int)).toNat Bool.false Bool.false (unI (ic i1.dots)) Bool.true 4)), (.int .u8 (bA [] i1.part (((i1.gap : Nat) : Int)).toNat Bool.false Bool.false (unI (ic i1.dots)) Bool.true 5)), (.int .u8 (bA [] i1.part (((i1.gap : Nat) : Int)).toNat Bool.false Bool.false (unI (ic i1.dots)) Bool.true 6)), (.int .u8 (bA [] i1.part (((i1.gap : Nat) : Int)).toNat Bool.false Bool.false (unI (ic i1.dots)) Bool.true 7)), (.int .u8 (bA [] i1.part (((i1.gap : Nat) : Int)).toNat Bool.false Bool.false (unI (ic i1.dots)) Bool.true 8)), (.int .u8 (bA [] i1.part (((i1.gap : Nat) : Int)).toNat Bool.false Bool.false (unI (ic i1.dots)) Bool.true 9)), (.int .u8 (bA [] i1.part (((i1.gap : Nat) : Int)).toNat Bool.false Bool.false (unI (ic i1.dots)) Bool.true 10)), (.int .u8 (bA [] i1.part (((i1.gap : Nat) : Int)).toNat Bool.false Bool.false (unI (ic i1.dots)) Bool.true 11)), (.int .u8 (bA [] i1.part (((i1.gap : Nat) : Int)).toNat Bool.false Bool.false (unI (ic i1.dots)) Bool.true 12)), (.int .u8 (bA [] i1.part (((i1.gap : Nat) : Int)).toNat Bool.false Bool.false (unI (ic i1.dots)) Bool.true 13)), (.int .u8 (bA [] i1.part (((i1.gap : Nat) : Int)).toNat Bool.false Bool.false (unI (ic i1.dots)) Bool.true 14)), (.int .u8 (bA [] i1.part (((i1.gap : Nat) : Int)).toNat Bool.false Bool.false (unI (ic i1.dots)) Bool.true 15))]⟩), (.bool (oA [] i1.part (((i1.gap : Nat) : Int)).toNat Bool.false Bool.false (unI (ic i1.dots)) Bool.true))]⟩)), ((cph20 l i1) : AHeap)) ((.ret .nilIface), ([] : AHeap)) cps0 (.skip 0 .go)))))) | _ => fun i1 => .skip 0 (.byB (decide (i1.i < l.length)) (.skip 0 (.genE (Nat × Nat) (fun y2 => ((.tuple ⟨[(.bool true), (.int .i64 ((i1.i : Nat) : Int)), (.int .i32 ((y2.fst : Nat) : Int))]⟩), ((cph3 l i1 y2) : AHeap))) fun y2 => .skip 7 (.gen (Int) (fun x => .int .u8 x) fun _z3 => .skip 18 (.ask (.skip 5 (.ask (.skip 18 (.all (fun _z4 => .go))) (.skip 10 (.all (fun _z4 => .skip 1 (.ask (.skip 11 (.all (fun _z5 => .go))) (.skip 12 (.call Unit (ck (.int .i64 (valB 10 i1.part)) (cph3 l i1 y2)) fun _ => .skip 0 (.put (.slice (some ⟨10, 0, (some 1)⟩) (i1.dots.length + 1) (i1.dots.length + 1)) (cph24 l i1 y2) (.go)))))))))) (.skip 2 (.ask (.skip 26 (.all (fun _z4 => .go))) (.skip 4 (.ask (.skip 23 (.all (fun _z4 => .go))) (.skip 13 (.all (fun z4 => .skip 1 (.val (.string (bs ((Go.Utf8.encode z4).data.toList))) (.skip 1 (.val (.string (bs (i1.part ++ (Go.Utf8.encode z4).data.toList))) (.skip 1 (.call Unit (ck (.bool (dec (i1.part ++ (Go.Utf8.encode z4).data.toList))) (cph3 l i1 y2)) fun _ => .skip 1 (.ask (.skip 11 (.all (fun _z5 => .go))) (cps1 i1)))))))))))))))))) (.skip 0 (.put (.tuple ⟨[(.bool false)]⟩) (cph6 l i1) (.skip 3 (.call2 (true) ((.ret (.tuple ⟨[(.agg ⟨[(.int .u8 (bA (unI (ic i1.g)) i1.part (((i1.gap : Nat) : Int)).toNat Bool.false Bool.false (unI (ic i1.dots)) Bool.true 0)), (.int .u8 (bA (unI (ic i1.g)) i1.part (((i1.gap : Nat) : Int)).toNat Bool.false Bool.false (unI (ic i1.dots)) Bool.true 1)), (.int .u8 (bA (unI (ic i1.g)) i1.part (((i1.gap : Nat) : Int)).toNat Bool.false Bool.false (unI (ic i1.dots)) Bool.true 2)), (.int .u8 (bA (unI (ic i1.g)) i1.part (((i1.gap : Nat) : Int)).toNat Bool.false Bool.false (unI (ic i1.dots)) Bool.true 3)), (.int .u8 (bA (unI (ic i1.g)) i1.part (((i1.gap : Nat) : Int)).toNat Bool.false Bool.false (unI (ic i1.dots)) Bool.true 4)), (.int .u8 (bA (unI (ic i1.g)) i1.part (((i1.gap : Nat) : Int)).toNat Bool.false Bool.false (unI (ic i1.dots)) Bool.true 5)), (.int .u8 (bA (unI (ic i1.g)) i1.part (((i1.gap : Nat) : Int)).toNat Bool.false Bool.false (unI (ic i1.dots)) Bool.true 6)), (.int .u8 (bA (unI (ic i1.g)) i1.part (((i1.gap : Nat) : Int)).toNat Bool.false Bool.false (unI (ic i1.dots)) Bool.true 7)), (.int .u8 (bA (unI (ic i1.g)) i1.part (((i1.gap : Nat) : Int)).toNat Bool.false Bool.false (unI (ic i1.dots)) Bool.true 8)), (.int .u8 (bA (unI (ic i1.g)) i1.part (((i1.gap : Nat) : Int)).toNat Bool.false Bool.false (unI (ic i1.dots)) Bool.true 9)), (.int .u8 (bA (unI (ic i1.g)) i1.part (((i1.gap : Nat) : Int)).toNat Bool.false Bool.false (unI (ic i1.dots)) Bool.true 10)), (.int .u8 (bA (unI (ic i1.g)) i1.part (((i1.gap : Nat) : Int)).toNat Bool.false Bool.false (unI (ic i1.dots)) Bool.true 11)), (.int .u8 (bA (unI (ic i1.g)) i1.part (((i1.gap : Nat) : Int)).toNat Bool.false Bool.false (unI (ic i1.dots)) Bool.true 12)), (.int .u8 (bA (unI (ic i1.g)) i1.part (((i1.gap : Nat) : Int)).toNat Bool.false Bool.false (unI (ic i1.dots)) Bool.true 13)), (.int .u8 (bA (unI (ic i1.g)) i1.part (((i1.gap : Nat) : Int)).toNat Bool.false Bool.false (unI (ic i1.dots)) Bool.true 14)), (.int .u8 (bA (unI (ic i1.g)) i1.part (((i1.gap : Nat) : Int)).toNat Bool.false Bool.false (unI (ic i1.dots)) Bool.true 15))]⟩), (.bool (oA (unI (ic i1.g)) i1.part (((i1.gap : Nat) : Int)).toNat Bool.false Bool.false (unI (ic i1.dots)) Bool.true))]⟩)), ((cph17 l i1) : AHeap)) ((.ret .nilIface), ([] : AHeap)) cps0 (.skip 0 .go))))))))))) (fun r _ _ _ => Q r) := by kernel_rfl
end Go.Proofs.YtopladipgobpjaaDoor
