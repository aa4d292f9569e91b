/- Closed facts on the program's graph of calls, by one look at each function: nothing is answered in place, no call is left unfollowed, no variable is named, no function calls itself. -/
import Derived.Test.YtinhcdppdnmlgaaProg
import Derived.JoinedOf
import Derived.KernelRfl
namespace Go.Proofs.Ytinhcdppdnmlgaa

section
variable {P : Program}

theorem closureVia_inv (Q : FuncId → Prop) (hQ : ∀ g fn, P.funcs[g]? = some fn → Q g → ∀ h ∈ P.leadsTo fn, Q h) :
    ∀ (fuel : Nat) (todo seen : List FuncId), (∀ x ∈ todo, Q x) → (∀ x ∈ seen, Q x) → ∀ x ∈ P.closureVia fuel todo seen, Q x
  | 0, todo, seen, _, hs => by intro x hx; unfold Program.closureVia at hx; exact hs x (by simpa using hx)
  | n + 1, [], seen, _, hs => by intro x hx; unfold Program.closureVia at hx; exact hs x (by simpa using hx)
  | n + 1, f :: todo, seen, ht, hs => by
    intro x hx
    unfold Program.closureVia at hx
    split at hx
    · exact closureVia_inv Q hQ n todo seen (fun y hy => ht y (List.mem_cons_of_mem _ hy)) hs x hx
    · refine closureVia_inv Q hQ n _ (f :: seen) ?_ ?_ x hx
      · intro y hy
        rcases List.mem_append.1 hy with hy | hy
        · cases hf : P.funcs[f]? with
          | none => simp [hf] at hy
          | some fn =>
            simp only [hf, Option.elim_some] at hy
            exact hQ f fn hf (ht f List.mem_cons_self) y hy
        · exact ht y (List.mem_cons_of_mem _ hy)
      · intro y hy
        rcases List.mem_cons.1 hy with rfl | hy
        · exact ht y List.mem_cons_self
        · exact hs y hy

theorem closure_inv (Q : FuncId → Prop) (hQ : ∀ g fn, P.funcs[g]? = some fn → Q g → ∀ h ∈ P.leadsTo fn, Q h) (f : FuncId) (hf : Q f) : ∀ x ∈ P.closure f, Q x :=
  closureVia_inv Q hQ _ [f] [] (by simpa using hf) (by simp)

/-- One look at a function. -/
def okFn (P : Program) (rank : Nat → Nat) (g : Nat) (fn : Func) : Bool :=
  (P.leadsTo fn).all (fun h => decide (rank h < rank g)) && !(fn.ours || fn.body.isNone || fn.name == "runtime.NumGoroutine") &&
  !(match fn.body with | some c => c.unfollowed | none => entryCalls fn) && (fn.body.elim [] Code.globalsNamed).isEmpty

/-- All functions below a number are plain, and each calls only functions of a lower rank, below that number. -/
structure Plain (P : Program) (rank : Nat → Nat) (top : Nat) : Prop where
  ok : ∀ g fn, P.funcs[g]? = some fn → rank g < top → okFn P rank g fn = true

variable {rank : Nat → Nat} {top : Nat}

theorem Plain.leads (H : Plain P rank top) {g : Nat} {fn : Func} (hf : P.funcs[g]? = some fn) (hg : rank g < top) {h : FuncId} (hh : h ∈ P.leadsTo fn) : rank h < rank g := by
  have := H.ok g fn hf hg
  simp only [okFn, Bool.and_eq_true, List.all_eq_true, decide_eq_true_eq] at this
  exact this.1.1.1 h hh

theorem Plain.below (H : Plain P rank top) (f : FuncId) (hf : rank f < top) : ∀ x ∈ P.closure f, rank x ≤ rank f :=
  closure_inv (fun x => rank x ≤ rank f) (fun g fn hg hq h hh => by have := H.leads hg (by omega) hh; omega) f (Nat.le_refl _)

theorem Plain.fnOk (H : Plain P rank top) (f : FuncId) (hf : rank f < top) {g : Nat} {fn : Func} (hg : g ∈ P.closure f) (hfn : P.funcs[g]? = some fn) :
    (fn.ours || fn.body.isNone || fn.name == "runtime.NumGoroutine") = false ∧ (match fn.body with | some c => c.unfollowed | none => entryCalls fn) = false ∧ (fn.body.elim [] Code.globalsNamed) = [] ∧ fn.body.isNone = false := by
  have h1 := H.ok g fn hfn (by have := H.below f hf g hg; omega)
  simp only [okFn, Bool.and_eq_true, List.isEmpty_iff, Bool.not_eq_true'] at h1
  refine ⟨h1.1.1.2, h1.1.2, h1.2, ?_⟩
  have := h1.1.1.2
  simp only [Bool.or_eq_false_iff] at this
  exact this.1.2

theorem Plain.inPlace (H : Plain P rank top) (f : FuncId) (hf : rank f < top) : P.inPlace f = [] := by
  unfold Program.inPlace
  rw [List.filterMap_eq_nil_iff]
  intro g hg
  cases hfn : P.funcs[g]? with
  | none => rfl
  | some fn =>
    have := (H.fnOk f hf hg hfn).1
    simp only [Option.bind_some]
    rw [if_neg (by rw [this]; simp)]

theorem Plain.unfollowed (H : Plain P rank top) (f : FuncId) (hf : rank f < top) : P.unfollowed f = false := by
  unfold Program.unfollowed
  rw [List.any_eq_false]
  intro g hg
  cases hfn : P.funcs[g]? with
  | none => simp
  | some fn =>
    have := (H.fnOk f hf hg hfn).2.1
    simp only [Option.any_some, Bool.not_eq_true]
    exact this

theorem Plain.recurses (H : Plain P rank top) (f : FuncId) (hf : rank f < top) : P.recurses f = false := by
  unfold Program.recurses
  rw [H.unfollowed f hf, Bool.false_or, List.any_eq_false]
  intro g hg
  cases hfn : P.funcs[g]? with
  | none => simp
  | some fn =>
    simp only [Option.elim_some, Bool.not_eq_true, List.any_eq_false, List.contains_eq_mem, decide_eq_true_eq]
    intro h hh hin
    have h1 := H.below f hf g hg
    have h2 := H.leads hfn (by omega) hh
    have h3 := H.below h (by omega) g hin
    omega

theorem Plain.varsNamed (H : Plain P rank top) (f : FuncId) (hf : rank f < top) : P.varsNamed f = [] := by
  unfold Program.varsNamed
  have e1 : ((P.closure f).flatMap fun g => ((P.funcs[g]?).bind (·.body)).elim [] Code.globalsNamed) = [] := by
    rw [List.flatMap_eq_nil_iff]
    intro g hg
    cases hfn : P.funcs[g]? with
    | none => rfl
    | some fn =>
      have := (H.fnOk f hf hg hfn).2.2.1
      simp only [Option.bind_some]
      exact this
  have e2 : ((P.closure f).filterMap fun g => (P.funcs[g]?).bind fun fn => if fn.body.isNone then entryReads.lookup fn.name else none) = [] := by
    rw [List.filterMap_eq_nil_iff]
    intro g hg
    cases hfn : P.funcs[g]? with
    | none => rfl
    | some fn =>
      have := (H.fnOk f hf hg hfn).2.2.2
      simp only [Option.bind_some]
      rw [if_neg (by rw [this]; simp)]
  rw [e1, e2]
  rfl
end

end Go.Proofs.Ytinhcdppdnmlgaa
