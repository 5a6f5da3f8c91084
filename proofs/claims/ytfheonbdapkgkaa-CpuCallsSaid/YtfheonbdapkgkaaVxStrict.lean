/- The words of 'std', strictly: each value is worked out before it is handed on. (For data that are known; the same function.) -/
import Derived.Test.YtfheonbdapkgkaaVxDefs
namespace Go.Vx
open Go

def forceN {α : Type} (n : Nat) (c : Nat → α) : α := match n with
  | 0 => c 0
  | m + 1 => c (Nat.succ m)
def forceI {α : Type} (n : Int) (c : Int → α) : α := match n with
  | .ofNat m => forceN m fun m => c (.ofNat m)
  | .negSucc m => forceN m fun m => c (.negSucc m)
def forceK {α : Type} (k : IntKind) (c : IntKind → α) : α := match k with
  | .i8 => c .i8
  | .i16 => c .i16
  | .i32 => c .i32
  | .i64 => c .i64
  | .u8 => c .u8
  | .u16 => c .u16
  | .u32 => c .u32
  | .u64 => c .u64
def forceA {α : Type} (a : Addr) (c : Addr → α) : α := forceN a.block fun b => forceN a.off fun o => match a.spot with
  | none => c ⟨b, o, none⟩
  | some i => forceN i fun i => c ⟨b, o, some i⟩

mutual
def forceV {α : Type} : Value → (Value → α) → α
  | .int k n, c => forceK k fun k => forceI n fun n => c (.int k n)
  | .bool b, c => cond b (c (.bool true)) (c (.bool false))
  | .pointer (some a), c => forceA a fun a => c (.pointer (some a))
  | .slice (some a) l m, c => forceA a fun a => forceN l fun l => forceN m fun m => c (.slice (some a) l m)
  | .iface t v, c => forceN t fun t => forceV v fun v => c (.iface t v)
  | .agg ⟨l⟩, c => forceL l fun l => c (.agg ⟨l⟩)
  | .tuple ⟨l⟩, c => forceL l fun l => c (.tuple ⟨l⟩)
  | .func f ⟨a⟩ ⟨b⟩, c => forceL a fun a => forceL b fun b => c (.func f ⟨a⟩ ⟨b⟩)
  | v, c => c v
def forceL {α : Type} : List Value → (List Value → α) → α
  | [], c => c []
  | v :: l, c => forceV v fun v => forceL l fun l => c (v :: l)
end

def forceH {α : Type} : Heap → (Heap → α) → α
  | [], c => c []
  | .cells l e :: H, c => forceL l fun l => forceH H fun H => c (.cells l e :: H)
  | .row s n f e :: H, c => forceN s fun s => forceN n fun n => forceH H fun H => c (.row s n f e :: H)
  | .gone :: H, c => forceH H fun H => c (.gone :: H)
  | B :: H, c => forceH H fun H => c (B :: H)

theorem forceN_eq {α : Type} (n : Nat) (c : Nat → α) : forceN n c = c n := by cases n <;> rfl
theorem forceI_eq {α : Type} (n : Int) (c : Int → α) : forceI n c = c n := by cases n <;> simp [forceI, forceN_eq]
theorem forceK_eq {α : Type} (k : IntKind) (c : IntKind → α) : forceK k c = c k := by cases k <;> rfl
theorem forceA_eq {α : Type} (a : Addr) (c : Addr → α) : forceA a c = c a := by
  obtain ⟨b, o, s⟩ := a
  cases s <;> simp [forceA, forceN_eq]
mutual
theorem forceV_eq {α : Type} : ∀ (v : Value) (c : Value → α), forceV v c = c v := by
  intro v c
  unfold forceV
  split
  · simp [forceK_eq, forceI_eq]
  · rename_i b; cases b <;> rfl
  · simp [forceA_eq]
  · simp [forceA_eq, forceN_eq]
  · rename_i t v; simp [forceN_eq, forceV_eq v]
  · rename_i l; simp [forceL_eq l]
  · rename_i l; simp [forceL_eq l]
  · rename_i f a b; simp [forceL_eq a, forceL_eq b]
  · rfl
theorem forceL_eq {α : Type} : ∀ (l : List Value) (c : List Value → α), forceL l c = c l := by
  intro l c
  unfold forceL
  split
  · rfl
  · rename_i v l; simp [forceV_eq v, forceL_eq l]
end
theorem forceH_eq {α : Type} : ∀ (H : Heap) (c : Heap → α), forceH H c = c H
  | [], c => rfl
  | B :: H, c => by
    cases B <;> simp [forceH, forceL_eq, forceN_eq, forceH_eq H]

def strict : Ops := { std with nv := fun v c => forceV v c, nh := fun H c => forceH H c }
theorem strict_eq : strict = std := by
  have h1 : (fun (v : Value) (c : Value → RR) => forceV v c) = std.nv := by funext v c; exact forceV_eq v c
  have h2 : (fun (H : Heap) (c : Heap → RR) => forceH H c) = std.nh := by funext H c; exact forceH_eq H c
  unfold strict
  rw [h1, h2]
end Go.Vx
