/- Calls: what a contract promises; soundness of one operation. -/
import Derived.Test.YtfheonbdapkgkaaVxOp
namespace Go.Vx
open Go

def CR.heap (H : Heap) : CR → Heap
  | .ret _ h => h.getD H
  | .pan _ h => h.getD H
def CR.value : CR → Value
  | .ret v _ => v
  | .pan v _ => v

def CR.ends (r : Env) : CR → Ending → Prop
  | .ret v _, e => e = .returned (ren r v)
  | .pan v _, e => e = .panicked [{ v := ren r v, recovered := false }]

/-- the call comes to just this -/
def CallsOK (P : Program) (f : FuncId) (args : List Value) (H : Heap) (c : CR) : Prop :=
  ∀ (r : Env) (F : Foot) (w : World), Sat r F H w → okH H → okL (below H.length) args = true →
    Calls P f (args.map (ren r)).toArray w fun e w' => ∃ r' F', Tr r F H.length w r' F' (c.heap H).length w' ∧ Sat r' F' (c.heap H) w' ∧ c.ends r' e

/-- what a contract answers names only blocks that there are -/
def CR.ok (H : Heap) (c : CR) : Prop := okH (c.heap H) ∧ H.length ≤ (c.heap H).length ∧ okV (below (c.heap H).length) c.value = true

def TableOK (P : Program) (G : Table) : Prop :=
  ∀ f args H c, (G f args H).run = some c → okH H → okL (below H.length) args = true → CallsOK P f args H c ∧ c.ok H

section
variable {P : Program} {w : World}

theorem callFunc_run {f : FuncId} (h : callable P f = true) (args : Array Value) : (callFunc f args).run P w = .ok (.enter f args) w := by
  unfold callable at h
  cases hf : P.funcs[f]? with
  | none => simp [hf] at h
  | some fn =>
    simp only [hf, Bool.and_eq_true, Bool.not_eq_true'] at h
    obtain ⟨h1, h2⟩ := h
    obtain ⟨b, hb⟩ := Option.isSome_iff_exists.1 h2
    simp only [callFunc, Sem.run_bind, run_program, Result.andThen_ok, hf, h1, Bool.false_eq_true, if_false, hb, Option.isNone_some, Sem.run_pure]

theorem methodOf_sound {r : Env} {v : Value} {name : String} {f : FuncId} {x : Value} (h : methodOf P v name = some (f, x)) (hf : callable P f = true) (args : Array Value) :
    (callMethod (ren r v) name args).run P w = .ok (.enter f (#[ren r x] ++ args)) w := by
  unfold methodOf at h
  cases v <;> try (cases h; done)
  rename_i t u
  dsimp only at h
  cases hi : P.info? t with
  | none => simp [hi] at h
  | some i =>
    simp only [hi, findMethod_eq] at h
    cases hm : i.methods.toList.find? (·.name == name) with
    | none => simp [hm] at h
    | some m =>
      simp only [hm] at h
      have hm' : i.methods.find? (·.name == name) = some m := by rw [← hm]; simp
      have key : ∀ n, (method (n + 1) t (ren r u) name).run P w = .ok (f, ren r x) w := by
        intro n
        simp only [method, Sem.run_bind, typeInfo, run_program, Result.andThen_ok, hi, Sem.run_pure, hm']
        split at h
        · rename_i f' e hp hfn hu
          simp only [Option.some.injEq, Prod.mk.injEq] at h
          obtain ⟨rfl, rfl⟩ := h
          simp [hp, follow, hfn, receiverAt, run_underlying hu, Place.get]
        · cases h
        · rename_i f' d hnot hp hfn hu
          simp only [Option.some.injEq, Prod.mk.injEq] at h
          obtain ⟨rfl, rfl⟩ := h
          have : ∀ s, (receiverAt t (Place.val (ren r u)) false s).run P w = .ok (ren r u) w := by
            intro s
            simp only [receiverAt, Sem.run_bind, run_underlying hu, Result.andThen_ok]
            cases d <;> first | exact (hnot _ rfl).elim | rfl
          have hpe : m.path.isEmpty = true := by simp [Array.isEmpty, ← Array.length_toList, hp]
          simp [hp, follow, hfn, hpe, this]
        · cases h
      have : ∃ n, P.types.size + Made.depth = n + 1 := ⟨P.types.size + 99, rfl⟩
      obtain ⟨n, hn⟩ := this
      simp only [ren, callMethod, Sem.run_bind, run_program, Result.andThen_ok, hn, key n, callFunc_run hf]

theorem target_sound {r : Env} {t : List Value} {a : Act} (ha : Sees r t a) {c : Call} {ty : TypeId} {f : FuncId} {args : List Value} (h : target P t c = some (f, args)) (hf : callable P f = true) :
    (do let d ← resolve a.eval c ty; invoke d.target d.args : Sem Next).run P w = .ok (.enter f (args.map (ren r)).toArray) w := by
  unfold target at h
  cases hl : evL t c.args.toList with
  | none => simp [hl] at h
  | some vs =>
    have hargs : c.args.map a.eval = (vs.map (ren r)).toArray := Array.ext' (by simpa using evL_sound ha hl)
    simp only [hl] at h
    cases hc : c.callee with
    | builtin b => simp [hc] at h
    | value g =>
      simp only [hc] at h
      split at h
      · rename_i g' first captured hg
        simp only [Option.some.injEq, Prod.mk.injEq] at h
        obtain ⟨rfl, rfl⟩ := h
        simp [resolve, hargs, hc, evS_sound ha hg, ren_func, Deferred.ofValue, invoke, callFunc_run hf]
      · cases h
    | invoke recv name =>
      simp only [hc] at h
      split at h
      · rename_i v hv
        simp only [Option.map_eq_some_iff, Prod.mk.injEq, Prod.exists] at h
        obtain ⟨f', x, hm, rfl, rfl⟩ := h
        have := methodOf_sound (w := w) (r := r) hm hf (vs.map (ren r)).toArray
        simp only [resolve, hargs, hc, Sem.run_bind, Sem.run_pure, Result.andThen_ok, evS_sound ha hv, invoke]
        simpa [List.take_of_length_le] using this
      · cases h

theorem target_ok {p : Nat → Bool} {t : List Value} (ht : ∀ v ∈ t, okV p v = true) {c : Call} {f : FuncId} {args : List Value} (h : target P t c = some (f, args)) : okL p args = true := by
  unfold target at h
  cases hl : evL t c.args.toList with
  | none => simp [hl] at h
  | some vs =>
    have hvs := evL_ok ht hl
    simp only [hl] at h
    split at h
    · split at h
      · rename_i g' first captured hg
        simp only [Option.some.injEq, Prod.mk.injEq] at h
        obtain ⟨rfl, rfl⟩ := h
        have := evS_ok ht hg
        rw [okV_func, Bool.and_eq_true] at this
        rw [okL_iff] at hvs ⊢
        intro v hv
        simp only [List.mem_append] at hv
        rcases hv with (hv | hv) | hv
        · exact okL_iff.1 this.1 v hv
        · exact hvs v hv
        · exact okL_iff.1 this.2 v hv
      · cases h
    · split at h
      · rename_i v hv
        simp only [Option.map_eq_some_iff, Prod.mk.injEq, Prod.exists] at h
        obtain ⟨f', x, hm, rfl, rfl⟩ := h
        have hvo := evS_ok ht hv
        unfold methodOf at hm
        cases v <;> try (cases hm; done)
        rename_i ty u
        have hu : okV p u = true := hvo
        dsimp only at hm
        split at hm
        · split at hm
          · split at hm <;> simp only [Option.some.injEq, Prod.mk.injEq, reduceCtorEq] at hm
            · obtain ⟨rfl, rfl⟩ := hm; simp [okL, hu, hvs]
            · obtain ⟨rfl, rfl⟩ := hm; simp [okL, hu, hvs]
          · cases hm
        · cases hm
      · cases h
    · cases h

theorem minL_sound {k : IntKind} (r : Env) : ∀ {l : List Value} {a n : Int}, minL std k a l = some n → ((l.map (ren r)).foldlM Builtin.min2 (.int k a)).run P w = .ok (.int k n) w
  | [], a, n, h => by simp only [minL, Option.some.injEq] at h; subst h; rfl
  | v :: l, a, n, h => by
    cases v <;> try (simp [minL] at h; done)
    rename_i k' b
    by_cases hk : k = k'
    · subst hk
      simp only [minL, decide_true, cond_true] at h
      have ih := minL_sound r h
      simp only [List.map_cons, List.foldlM_cons, ren, Builtin.min2, pure_bind]
      have e : std.ite (std.lt b a) b a = if b < a then b else a := by
        show (bif decide (b < a) then b else a) = _
        by_cases hba : b < a <;> simp [hba]
      rw [e] at ih
      exact ih
    · simp [minL, hk] at h

theorem builtinV_sound {r : Env} {t : List Value} {a : Act} (ha : Sees r t a) {c : Call} {b : Builtin} (hb : c.callee = .builtin b) {ty : TypeId} {args : List Value} {v : Value}
    (hl : evL t c.args.toList = some args) (h : builtinV std P b c.argTypes.toList args = some v) :
    (do let d ← resolve a.eval c ty; invoke d.target d.args : Sem Next).run P w = .ok (.value (ren r v)) w := by
  have hargs : c.args.map a.eval = (args.map (ren r)).toArray := Array.ext' (by simpa using evL_sound ha hl)
  unfold builtinV at h
  split at h
  · rename_i tt x ht
    have hat : c.argTypes = #[tt] := Array.ext' (by simpa using ht)
    split at h
    · rename_i e A n cp hu
      simp only [Option.some.injEq] at h; subst h
      cases A <;> simp [resolve, hargs, hb, invoke, builtin, Builtin.len_, hat, run_underlying hu, ren, goInt]
    · rename_i s hu
      simp only [Option.some.injEq] at h; subst h
      simp [resolve, hargs, hb, invoke, builtin, Builtin.len_, hat, run_underlying hu, ren, goInt]
    · rename_i n e hu
      simp only [Option.some.injEq] at h; subst h
      simp [resolve, hargs, hb, invoke, builtin, Builtin.len_, hat, run_underlying hu, ren, goInt]
    · cases h
  · rename_i k a' l
    simp only [Option.map_eq_some_iff] at h
    obtain ⟨n, hn, rfl⟩ := h
    have := minL_sound (P := P) (w := w) r hn
    simp [resolve, hargs, hb, invoke, builtin, Builtin.min_, ren, this]
  · cases h
theorem builtinV_ok {p : Nat → Bool} {b : Builtin} {tys : List TypeId} {args : List Value} {v : Value} (h : builtinV std P b tys args = some v) : okV p v = true := by
  unfold builtinV at h
  split at h
  · split at h <;> first | (simp only [Option.some.injEq] at h; subst h; rfl) | cases h
  · simp only [Option.map_eq_some_iff] at h
    obtain ⟨n, hn, rfl⟩ := h
    rfl
  · cases h
end
end Go.Vx
