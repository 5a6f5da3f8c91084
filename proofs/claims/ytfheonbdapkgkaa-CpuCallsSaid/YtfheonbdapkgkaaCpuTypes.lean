/- A part of the proof: an executor of the program, contracts, laws. -/
import Derived.Test.YtfheonbdapkgkaaVxDefs
import Derived.Test.YtfheonbdapkgkaaVxKind
namespace Go.Vx
open Go

structure Ins where
  Cond : Int
  Op : Int
  S : Bool
  Form : Int
  Rd : Int
  Rn : Int
  Rm : Int
  Rs : Int
  Ra : Int
  Imm : Int
  Shift : Int
  Amount : Int
  Pre : Bool
  Up : Bool
  Write : Bool
  List : Int
  CRn : Int
  Op1 : Int
  CRm : Int
  Op2 : Int

def insV (i : Ins) : Value := .agg #[.int .i64 i.Cond, .int .i64 i.Op, .bool i.S, .int .i64 i.Form, .int .i64 i.Rd, .int .i64 i.Rn, .int .i64 i.Rm, .int .i64 i.Rs, .int .i64 i.Ra,
  .int .u32 i.Imm, .int .i64 i.Shift, .int .i64 i.Amount, .bool i.Pre, .bool i.Up, .bool i.Write, .int .u16 i.List, .int .i64 i.CRn, .int .i64 i.Op1, .int .i64 i.CRm, .int .i64 i.Op2]

def insOf : Value → Option Ins
  | .agg ⟨[.int .i64 a, .int .i64 b, .bool c, .int .i64 d, .int .i64 e, .int .i64 f, .int .i64 g, .int .i64 h, .int .i64 i, .int .u32 j, .int .i64 k, .int .i64 l, .bool m, .bool n, .bool o, .int .u16 p,
      .int .i64 q, .int .i64 r, .int .i64 s, .int .i64 t]⟩ => some ⟨a, b, c, d, e, f, g, h, i, j, k, l, m, n, o, p, q, r, s, t⟩
  | _ => none

def insZ : Ins := ⟨0, 0, false, 0, 0, 0, 0, 0, 0, 0, 0, 0, false, false, false, 0, 0, 0, 0, 0⟩

/-- what stands behind a call, of the first n blocks -/
def keep (n : Nat) (vs : List Value) (h : Heap) : RR := some (.ret (match vs with | [v] => v | vs => .tuple ⟨vs⟩) (h.take n))
end Go.Vx

/- Typed data of the processor. -/
namespace Go.Vx
open Go

structure Sta where
  s0 : Int
  s1 : Int
  s2 : Int
  s3 : Int
  s4 : Int
  s5 : Int
  s6 : Int
  s7 : Int
  s8 : Int
  s9 : Int
  s10 : Int
  s11 : Int
  s12 : Int
  s13 : Int
  s14 : Int
  s15 : Int
  s16 : Int
  s17 : Int
  s18 : Int
  s19 : Int
  s20 : Int
  s21 : Int
  s22 : Int
  s23 : Int
  s24 : Int
  s25 : Int
  s26 : Int
  s27 : Int
  s28 : Int
  s29 : Int

def stL (s : Sta) : List Value := [.int .u32 s.s0, .int .u32 s.s1, .int .u32 s.s2, .int .u32 s.s3, .int .u32 s.s4, .int .u32 s.s5, .int .u32 s.s6, .int .u32 s.s7, .int .u32 s.s8, .int .u32 s.s9, .int .u32 s.s10, .int .u32 s.s11, .int .u32 s.s12, .int .u32 s.s13, .int .u32 s.s14, .int .u32 s.s15, .int .u32 s.s16, .int .u32 s.s17, .int .u32 s.s18, .int .u32 s.s19, .int .u32 s.s20, .int .u32 s.s21, .int .u32 s.s22, .int .u32 s.s23, .int .u32 s.s24, .int .u32 s.s25, .int .u32 s.s26, .int .u32 s.s27, .int .u32 s.s28, .int .u32 s.s29]
def stV (s : Sta) : Value := .agg ⟨stL s⟩
def stR (v : Value) : Sta := (fun l => ⟨cellI l 0, cellI l 1, cellI l 2, cellI l 3, cellI l 4, cellI l 5, cellI l 6, cellI l 7, cellI l 8, cellI l 9, cellI l 10, cellI l 11, cellI l 12, cellI l 13, cellI l 14, cellI l 15, cellI l 16, cellI l 17, cellI l 18, cellI l 19, cellI l 20, cellI l 21, cellI l 22, cellI l 23, cellI l 24, cellI l 25, cellI l 26, cellI l 27, cellI l 28, cellI l 29⟩) (cellsL v)
def staL : List Value → Option Sta
  | [.int .u32 x0, .int .u32 x1, .int .u32 x2, .int .u32 x3, .int .u32 x4, .int .u32 x5, .int .u32 x6, .int .u32 x7, .int .u32 x8, .int .u32 x9, .int .u32 x10, .int .u32 x11, .int .u32 x12, .int .u32 x13, .int .u32 x14, .int .u32 x15, .int .u32 x16, .int .u32 x17, .int .u32 x18, .int .u32 x19, .int .u32 x20, .int .u32 x21, .int .u32 x22, .int .u32 x23, .int .u32 x24, .int .u32 x25, .int .u32 x26, .int .u32 x27, .int .u32 x28, .int .u32 x29] => some ⟨x0, x1, x2, x3, x4, x5, x6, x7, x8, x9, x10, x11, x12, x13, x14, x15, x16, x17, x18, x19, x20, x21, x22, x23, x24, x25, x26, x27, x28, x29⟩
  | _ => none
def staOf : Value → Option Sta
  | .agg ⟨l⟩ => staL l
  | _ => none
theorem staL_eq {l : List Value} {s : Sta} (h : staL l = some s) : l = stL s := by
  unfold staL at h
  split at h
  · cases h; rfl
  · cases h
theorem staOf_eq {v : Value} {s : Sta} (h : staOf v = some s) : v = stV s := by
  unfold staOf at h
  split at h
  · rw [staL_eq h]; rfl
  · cases h
def cpuL (s : Sta) (on : Bool) : List Value := stL s ++ [.bool on]
def staZ : Sta := ⟨0, 0, 0, 0, 0, 0, 0, 0, 0, 0, 0, 0, 0, 0, 0, 0, 0, 0, 0, 0, 0, 0, 0, 0, 0, 0, 0, 0, 0, 147⟩
theorem insOf_eq {v : Value} {i : Ins} (h : insOf v = some i) : v = insV i := by
  unfold insOf at h
  split at h
  · cases h; rfl
  · cases h
def insR (v : Value) : Ins := (fun l => ⟨cellI l 0, cellI l 1, cellB l 2, cellI l 3, cellI l 4, cellI l 5, cellI l 6, cellI l 7, cellI l 8, cellI l 9, cellI l 10, cellI l 11, cellB l 12, cellB l 13, cellB l 14, cellI l 15, cellI l 16, cellI l 17, cellI l 18, cellI l 19⟩) (cellsL v)

structure Flg where
  N : Bool
  Z : Bool
  C : Bool
  V : Bool
def flgV (f : Flg) : Value := .agg #[.bool f.N, .bool f.Z, .bool f.C, .bool f.V]
def flgR (v : Value) : Flg := (fun l => ⟨cellB l 0, cellB l 1, cellB l 2, cellB l 3⟩) (cellsL v)
def flgOf : Value → Option Flg
  | .agg ⟨[.bool a, .bool b, .bool c, .bool d]⟩ => some ⟨a, b, c, d⟩
  | _ => none
theorem flgOf_eq {v : Value} {i : Flg} (h : flgOf v = some i) : v = flgV i := by
  unfold flgOf at h
  split at h
  · cases h; rfl
  · cases h
def kIns : Kind := kVal insV insR
def kFlg : Kind := kVal flgV flgR
def kSta : Kind := kVal stV stR
def kI64 : Kind := kInt .i64
def kU32 : Kind := kInt .u32
def pairR {α β : Type} (f : Value → α) (g : Value → β) (v : Value) : α × β := (fun l => (f ((nth l 0).getD undef), g ((nth l 1).getD undef))) (cellsL v)
def kPair {α β : Type} (a : α → Value) (f : Value → α) (b : β → Value) (g : Value → β) : Kind := kVal (fun x : α × β => .tuple #[a x.1, b x.2]) (pairR f g)
def kInsOk : Kind := kPair insV insR Value.bool boolOf
def kI64Ok : Kind := kPair (Value.int .i64) intOf Value.bool boolOf
end Go.Vx
