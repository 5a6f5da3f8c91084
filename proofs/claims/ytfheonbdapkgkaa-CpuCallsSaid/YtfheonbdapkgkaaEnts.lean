/- The entries of the table. -/
import Derived.Test.YtfheonbdapkgkaaCpuTypes
namespace Go.Vx
open Go

def e38 (m38 : Int → Int → Int → (Int)) : Entry := (38, fun args H => match args, H with
  | [.int .u32 w, .int .u64 a, .int .u64 b], [] => .br (decide (0 ≤ b)) (.leaf (.ret (.int .i64 (m38 w a b)) none)) .fail
  | _, _ => .fail)

def e41 (m41 : Int → Int → (Bool)) : Entry := (41, fun args H => match args, H with
  | [.int .u32 w, .int .u64 a], [] => .br (decide (0 ≤ a)) (.leaf (.ret (.bool (m41 w a)) none)) .fail
  | _, _ => .fail)

def e76 (m76 : Int → (Bool)) : Entry := (76, fun args H => match args, H with
  | [.int .i64 o], [] => .leaf (.ret (.bool (m76 o)) none)
  | _, _ => .fail)

def e77 (m77 : Int → (Bool)) : Entry := (77, fun args H => match args, H with
  | [.int .i64 o], [] => .leaf (.ret (.bool (m77 o)) none)
  | _, _ => .fail)

def e46 (m46 : Int → (Bool)) : Entry := (46, fun args H => match args, H with
  | [.int .i64 o], [] => .leaf (.ret (.bool (m46 o)) none)
  | _, _ => .fail)

def e61 (m61 : Int → (Int)) : Entry := (61, fun args H => match args, H with
  | [.int .i64 n], [] => .leaf (.ret (.int .i64 (m61 n)) none)
  | _, _ => .fail)

def e75 (m75 : Bool → Int → (Int)) : Entry := (75, fun args H => match args, H with
  | [.bool l, .int .i64 n], [] => .br (decide (n < 4)) (.leaf (.ret (.int .i64 (m75 l n)) none)) .fail
  | _, _ => .fail)

def e60 (m60 : Int → Ins → (Ins)) : Entry := (60, fun args H => match args, H with
  | [.int .u32 w, vi], [] => (match insOf vi with | some i => .leaf (.ret (insV (m60 w i)) none) | none => .fail)
  | _, _ => .fail)

def e57 (m57 : Int → Ins → (Ins)) : Entry := (57, fun args H => match args, H with
  | [.int .u32 w, vi], [] => (match insOf vi with | some i => .leaf (.ret (insV (m57 w i)) none) | none => .fail)
  | _, _ => .fail)

def e58 (m58 : Int → Ins → (Ins)) : Entry := (58, fun args H => match args, H with
  | [.int .u32 w, vi], [] => (match insOf vi with | some i => .leaf (.ret (insV (m58 w i)) none) | none => .fail)
  | _, _ => .fail)

def e59 (m59 : Int → Ins → (Ins)) : Entry := (59, fun args H => match args, H with
  | [.int .u32 w, vi], [] => (match insOf vi with | some i => .leaf (.ret (insV (m59 w i)) none) | none => .fail)
  | _, _ => .fail)

def e39 (m39 : Int → Ins → (Ins)) : Entry := (39, fun args H => match args, H with
  | [.int .u32 w, vi], [] => (match insOf vi with | some i => .leaf (.ret (insV (m39 w i)) none) | none => .fail)
  | _, _ => .fail)

def e40 (m40 : Int → Ins → (Ins)) : Entry := (40, fun args H => match args, H with
  | [.int .u32 w, vi], [] => (match insOf vi with | some i => .leaf (.ret (insV (m40 w i)) none) | none => .fail)
  | _, _ => .fail)

def e43 (m43 : Int → Ins → (Ins)) : Entry := (43, fun args H => match args, H with
  | [.int .u32 w, vi], [] => (match insOf vi with | some i => .leaf (.ret (insV (m43 w i)) none) | none => .fail)
  | _, _ => .fail)

def e42 (m42 : Int → Ins → (Ins)) : Entry := (42, fun args H => match args, H with
  | [.int .u32 w, vi], [] => (match insOf vi with | some i => .leaf (.ret (insV (m42 w i)) none) | none => .fail)
  | _, _ => .fail)

def e44 (m44 : Int → Ins → (Ins)) : Entry := (44, fun args H => match args, H with
  | [.int .u32 w, vi], [] => (match insOf vi with | some i => .leaf (.ret (insV (m44 w i)) none) | none => .fail)
  | _, _ => .fail)

def e32 (m32 : Int → (Ins)) : Entry := (32, fun args H => match args, H with
  | [.int .u32 w], [] => .leaf (.ret (insV (m32 w)) none)
  | _, _ => .fail)

def e22 (m22 : Int → (Flg)) : Entry := (22, fun args H => match args, H with
  | [.int .u32 w], [] => .leaf (.ret (flgV (m22 w)) none)
  | _, _ => .fail)

def e21 (m21 : Int → Flg → (Bool)) : Entry := (21, fun args H => match args, H with
  | [.int .i64 o, vf], [] => (match flgOf vf with | some f => .leaf (.ret (.bool (m21 o f)) none) | none => .fail)
  | _, _ => .fail)

def e31 (m31 : Int → (Int × Bool)) : Entry := (31, fun args H => match args, H with
  | [.int .i64 n], [] => .leaf (.ret ((fun x : Int × Bool => .tuple #[.int .i64 x.1, .bool x.2]) ((m31 n))) none)
  | _, _ => .fail)

def e37 (m37 : Int → (Int)) : Entry := (37, fun args H => match args, H with
  | [.int .u32 w], [] => .leaf (.ret (.int .i64 (m37 w)) none)
  | _, _ => .fail)

def e14 (m14 : Int → (Int)) : Entry := (14, fun args H => match args, H with
  | [.int .i64 o], [] => .leaf (.ret (.int .i64 (m14 o)) none)
  | _, _ => .fail)

end Go.Vx

/- More entries. -/
namespace Go.Vx
open Go

def e45 (m45 : Int → Int → Int → Int → Nat → TypeId → (Bool)) : Entry := (45, fun args H => match args, H with
  | [.slice (some ⟨0, 0, none⟩) 4 k], [.cells [.int .i64 a, .int .i64 b, .int .i64 c, .int .i64 d] e] => .leaf (.ret (.bool (m45 a b c d k e)) none)
  | _, _ => .fail)

def e33 (m33 : Ins → (Bool)) : Entry := (33, fun args H => match args, H with
  | [vi], [] => (match insOf vi with | some i => .leaf (.ret (.bool (m33 i)) none) | none => .fail)
  | _, _ => .fail)

def e20 (m20 : Int → (Ins × Bool)) : Entry := (20, fun args H => match args, H with
  | [.int .u32 w], [] => .leaf (.ret ((fun x : Ins × Bool => .tuple #[insV x.1, .bool x.2]) ((m20 w))) none)
  | _, _ => .fail)

end Go.Vx

/- More typed data, more entries: the processor. -/
namespace Go.Vx
open Go

def cpuOf (l : List Value) : Option (Sta × Bool) := match staL (l.take 30), l.drop 30 with
  | some s, [.bool on] => some (s, on)
  | _, _ => none
theorem cpuOf_eq {l : List Value} {s : Sta} {on : Bool} (h : cpuOf l = some (s, on)) : l = cpuL s on := by
  unfold cpuOf at h
  split at h
  · rename_i s' on' h1 h2
    cases h
    rw [← List.take_append_drop 30 l, staL_eq h1, h2]; rfl
  · cases h

def e24 : Entry := (24, fun args H => match args, H with
  | [], [] => .leaf (.ret (.pointer (some ⟨0, 0, none⟩)) (some [.cells (cpuL staZ false) 85]))
  | _, _ => .fail)
def e11 : Entry := (11, fun args H => match args, H with
  | [.pointer (some ⟨0, 0, none⟩)], [.cells l 85] => (match cpuOf l with | some (s, _) => .leaf (.ret (stV s) none) | none => .fail)
  | _, _ => .fail)
def e18 (ok : Sta → Bool) : Entry := (18, fun args H => match args, H with
  | [.pointer (some ⟨0, 0, none⟩), v], [.cells l 85] => (match staOf v, cpuOf l with
    | some s, some (_, on) => .br (ok s) (.leaf (.ret (.int .i64 0) (some [.cells (cpuL s on) 85]))) (.leaf (.ret (.int .i64 200) none))
    | _, _ => .fail)
  | _, _ => .fail)
def e26 (m26 : Sta → Bool) : Entry := (26, fun args H => match args, H with
  | [v], [] => (match staOf v with | some s => .leaf (.ret (.bool (m26 s)) none) | none => .fail)
  | _, _ => .fail)
end Go.Vx

/- More entries: a bus of one word. -/
namespace Go.Vx
open Go

/-- the bus' own cells: one word, no hole; nothing asked yet, or one thing -/
def lineL (asked : Bool) (cop : Int) : List Value := [.slice (some ⟨1, 0, none⟩) 1 0, .slice none 0 0, bif asked then .slice (some ⟨2, 0, none⟩) 1 0 else .slice none 0 0, .int .u32 cop]
/-- the same, behind another block -/
def lineM (asked : Bool) (cop : Int) : List Value := [.slice (some ⟨2, 0, none⟩) 1 0, .slice none 0 0, bif asked then .slice (some ⟨3, 0, none⟩) 1 0 else .slice none 0 0, .int .u32 cop]
def row1 (a w : Int) : Blk := .row 2 1 (cellsF 2 [.int .u32 a, .int .u32 w]) 69
def word1 (a w x : Int) : Int := bif IntKind.wrap .u32 (a - Int.tmod a 4) == x then w else 0

def e17 (m17 : Int → Int → Int → Int) : Entry := (17, fun args H => match args, H with
  | [.pointer (some ⟨0, 0, none⟩), .int .u32 x], [.cells [.slice (some ⟨1, 0, none⟩) 1 0, .slice none 0 0, .slice (some ⟨2, 0, none⟩) 1 0, .int .u32 _] 48, .row 2 1 f 69, .row 12 1 _ 54] =>
    (match f 0 with | [.int .u32 a, .int .u32 w] => .leaf (.ret (.int .u32 (m17 a w x)) none) | _ => .fail)
  | _, _ => .fail)
def e123 (g4 : Int → Bool) : Entry := (123, fun args H => match args, H with
  | [.pointer (some ⟨0, 0, none⟩), .agg ⟨[.int .i64 1, .int .u32 x, .int .i64 4, .int .u32 0, .bool _]⟩], [.cells [.slice (some ⟨1, 0, none⟩) 1 0, .slice none 0 0, .slice (some ⟨2, 0, none⟩) 1 0, .int .u32 _] 48, .row 2 1 _ 69, .row 12 1 _ 54] =>
    .br (g4 x) (.leaf (.ret (.agg #[.int .i64 0, .int .i64 0, .int .i64 0]) none)) .fail
  | _, _ => .fail)
def al4 (x : Int) : Bool := Int.tmod x 4 == 0
def ask1 (x : Int) (p : Bool) : Blk := .row 12 1 (cellsF 12 [.int .i64 1, .int .u32 x, .int .i64 4, .int .u32 0, .bool p, .int .i64 0, .int .i64 0, .int .i64 0, .int .i64 0, .int .u32 0, .int .i64 0, .bool false]) 54
def e120 (g4 : Int → Bool) (m120 : Int → Int → Int → Int) : Entry := (120, fun args H => match args, H with
  | [.pointer (some ⟨0, 0, none⟩), .agg ⟨[.int .i64 1, .int .u32 x, .int .i64 4, .int .u32 0, .bool p]⟩], [.cells [.slice (some ⟨1, 0, none⟩) 1 0, .slice none 0 0, .slice none 0 0, .int .u32 cop] 48, .row 2 1 f 69] =>
    (match f 0 with
     | [.int .u32 a, .int .u32 w] => .br (g4 x) (.leaf (.ret (.agg #[.int .u32 (m120 a w x), .int .i64 0, .int .i64 0, .int .i64 0]) (some [.cells (lineL true cop) 48, row1 a w, ask1 x p]))) .fail
     | _ => .fail)
  | _, _ => .fail)
end Go.Vx

/- More entries: an exception; a step over a bus of one word. -/
namespace Go.Vx
open Go

def entA (s : Sta) (b v c : Int) : Sta := { s with s19 := b, s24 := s.s29, s28 := v, s29 := c }
def entB (s : Sta) (b v c : Int) : Sta := { s with s21 := b, s26 := s.s29, s28 := v, s29 := c }
def e28 (m28 : Int → Int → Int) : Entry := (28, fun args H => match args, H with
  | [.pointer (some ⟨0, 0, none⟩), .int .i64 m, .int .u32 b, .int .u32 v], [.cells l 85] => (match cpuOf l with
    | some (s, on) => .br (m == 19) (.leaf (.ret (.tuple #[]) (some [.cells (cpuL (entA s b v (m28 19 s.s29)) on) 85])))
        (.br (m == 27) (.leaf (.ret (.tuple #[]) (some [.cells (cpuL (entB s b v (m28 27 s.s29)) on) 85]))) .fail)
    | none => .fail)
  | _, _ => .fail)
end Go.Vx

/- More entries: the way out of an exception; a step; a processor in a state. -/
namespace Go.Vx
open Go

def e14i : Entry := (14, fun args H => match args, H with
  | [.int .i64 o], [] => .leaf (.ret (.int .i64 o) none)
  | _, _ => .fail)
def e37c (is1 is3 : Int → Bool) : Entry := (37, fun args H => match args, H with
  | [.int .u32 w], [] => .br (is1 w) (.leaf (.ret (.int .i64 1) none)) (.br (is3 w) (.leaf (.ret (.int .i64 3) none)) .fail)
  | _, _ => .fail)
def e34c (is1 is3 : Int → Bool) : Entry := (34, fun args H => match args, H with
  | [.pointer (some ⟨0, 0, none⟩), .int .i64 n], [.cells l 85] => (match cpuOf l with
    | some (s, _) => .br (n == 14) (.br (is1 s.s29) (.leaf (.ret (.pointer (some ⟨0, 18, some 1⟩)) none)) (.br (is3 s.s29) (.leaf (.ret (.pointer (some ⟨0, 18, some 3⟩)) none)) .fail)) .fail
    | none => .fail)
  | _, _ => .fail)
def e27c (is1 is3 : Int → Bool) : Entry := (27, fun args H => match args, H with
  | [.pointer (some ⟨0, 0, none⟩), .int .i64 n], [.cells l 85] => (match cpuOf l with
    | some (s, _) => .br (n == 14) (.br (is1 s.s29) (.leaf (.ret (.int .u32 s.s19) none)) (.br (is3 s.s29) (.leaf (.ret (.int .u32 s.s21) none)) .fail)) .fail
    | none => .fail)
  | _, _ => .fail)
def bkA (s : Sta) (a : Int) : Sta := { s with s28 := a, s29 := s.s24 }
def bkB (s : Sta) (a : Int) : Sta := { s with s28 := a, s29 := s.s26 }
def e30c (is1 is3 okm : Int → Bool) (cut : Int → Int) : Entry := (30, fun args H => match args, H with
  | [v, .int .u32 a], [] => (match staOf v with
    | some s => .br (is1 s.s29) (.br (okm s.s24) (.leaf (.ret (.tuple #[stV (bkA s (cut a)), .bool true]) none)) .fail)
        (.br (is3 s.s29) (.br (okm s.s26) (.leaf (.ret (.tuple #[stV (bkB s (cut a)), .bool true]) none)) .fail) .fail)
    | none => .fail)
  | _, _ => .fail)
def e15c (is1 is3 okm : Int → Bool) (cut : Int → Int) : Entry := (15, fun args H => match args, H with
  | [.pointer (some ⟨0, 0, none⟩), .int .u32 n], [.cells l 85] => (match cpuOf l with
    | some (s, on) => .br (n == 0) (.br (is1 s.s29) (.br (okm s.s24) (.leaf (.ret (.int .i64 0) (some [.cells (cpuL (bkA s (cut s.s19)) on) 85]))) .fail)
        (.br (is3 s.s29) (.br (okm s.s26) (.leaf (.ret (.int .i64 0) (some [.cells (cpuL (bkB s (cut s.s21)) on) 85]))) .fail) .fail)) .fail
    | none => .fail)
  | _, _ => .fail)
def e12 : Entry := (12, fun args H => match args, H with
  | [.slice (some ⟨0, 0, none⟩) 1 _, .slice none 0 0], [.cells [.int .u32 a, .int .u32 w] e] =>
    .leaf (.ret (.pointer (some ⟨1, 0, none⟩)) (some [.cells [.int .u32 a, .int .u32 w] e, .cells (lineM false 0) 48, row1 a w]))
  | _, _ => .fail)
def e9 (gp : Sta → Bool) (ld : Sta → Sta) : Entry := (9, fun args H => match args, H with
  | [v], [] => (match staOf v with
    | some s => .br (gp s) (.leaf (.ret (.pointer (some ⟨0, 0, none⟩)) (some [.cells (cpuL (ld s) false) 85]))) .fail
    | none => .fail)
  | _, _ => .fail)
def tookV (k at' w : Int) : Value := .tuple #[.agg #[.int .i64 k, .int .u32 at', .int .u32 w, .int .u32 0, .int .i64 0, .int .i64 0, .int .i64 0, .bool false], .int .i64 0]
def npS (s : Sta) (a : Int) : Sta := { s with s28 := a }
def e13 (g4 : Int → Bool) (m120 : Int → Int → Int → Int) (nd : Int → Bool) (np : Int → Int → Bool) (sv : Int → Bool) (add4 : Int → Int) (priv : Int → Bool) (m28 : Int → Int → Int) : Entry := (13, fun args H => match args, H with
  | [.pointer (some ⟨0, 0, none⟩), .iface 33 (.pointer (some ⟨1, 0, none⟩))], [.cells l 85, .cells [.slice (some ⟨2, 0, none⟩) 1 0, .slice none 0 0, .slice none 0 0, .int .u32 cop] 48, .row 2 1 f 69] =>
    (match cpuOf l, f 0 with
     | some (s, false), [.int .u32 a, .int .u32 w] => .br (g4 s.s28)
        (.br (nd (m120 a w s.s28)) (.leaf (.ret (tookV 1 s.s28 (m120 a w s.s28)) (some [.cells (cpuL (entB s (add4 s.s28) 4 (m28 27 s.s29)) false) 85, .cells (lineM true cop) 48, row1 a w, ask1 s.s28 (priv s.s29)])))
        (.br (np (m120 a w s.s28) s.s29) (.leaf (.ret (tookV 0 s.s28 (m120 a w s.s28)) (some [.cells (cpuL (npS s (add4 s.s28)) false) 85, .cells (lineM true cop) 48, row1 a w, ask1 s.s28 (priv s.s29)])))
        (.br (sv (m120 a w s.s28)) (.leaf (.ret (tookV 2 s.s28 (m120 a w s.s28)) (some [.cells (cpuL (entA s (add4 s.s28) 8 (m28 19 s.s29)) false) 85, .cells (lineM true cop) 48, row1 a w, ask1 s.s28 (priv s.s29)])))
         .fail))) .fail
     | _, _ => .fail)
  | _, _ => .fail)
end Go.Vx
