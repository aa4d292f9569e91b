/- Closed facts on functions that come to a call of a function value: what is answered in place, which variables are named, and that such a call is come to. -/
import Derived.Test.YtkmblobfamhoiaaRowC
namespace Go.Proofs.Ytkmblobfamhoiaa

section
variable {P : Program}

/-- One look at a function of a set: all that it calls lies in the set; it has a body and names no variable. -/
def okW (P : Program) (S : Nat → Bool) (fn : Func) : Bool :=
  (P.leadsTo fn).all (fun h => S h) && !(fn.ours || fn.body.isNone || fn.name == "runtime.NumGoroutine") && (fn.body.elim [] Code.globalsNamed).isEmpty

structure PlainW (P : Program) (S : Nat → Bool) : Prop where
  ok : ∀ g fn, P.funcs[g]? = some fn → S g = true → okW P S fn = true

variable {S : Nat → Bool}

theorem PlainW.leads (H : PlainW P S) {g : Nat} {fn : Func} (hf : P.funcs[g]? = some fn) (hg : S g = true) {h : FuncId} (hh : h ∈ P.leadsTo fn) : S h = true := by
  have := H.ok g fn hf hg
  simp only [okW, Bool.and_eq_true, List.all_eq_true] at this
  exact this.1.1 h hh

theorem PlainW.below (H : PlainW P S) (f : FuncId) (hf : S f = true) : ∀ x ∈ P.closure f, S x = true :=
  closure_inv (fun x => S x = true) (fun _ _ hg hq _ hh => H.leads hg hq hh) f hf

theorem PlainW.fnOk (H : PlainW P S) (f : FuncId) (hf : S f = true) {g : Nat} {fn : Func} (hg : g ∈ P.closure f) (hfn : P.funcs[g]? = some fn) :
    (fn.ours || fn.body.isNone || fn.name == "runtime.NumGoroutine") = false ∧ (fn.body.elim [] Code.globalsNamed) = [] ∧ fn.body.isNone = false := by
  have h1 := H.ok g fn hfn (H.below f hf g hg)
  simp only [okW, Bool.and_eq_true, List.isEmpty_iff, Bool.not_eq_true'] at h1
  refine ⟨h1.1.2, h1.2, ?_⟩
  have := h1.1.2
  simp only [Bool.or_eq_false_iff] at this
  exact this.1.2

theorem PlainW.inPlace (H : PlainW P S) (f : FuncId) (hf : S f = true) : P.inPlace f = [] := by
  unfold Program.inPlace
  rw [List.filterMap_eq_nil_iff]
  intro g hg
  cases hfn : P.funcs[g]? with
  | none => rfl
  | some fn =>
    have := (H.fnOk f hf hg hfn).1
    simp only [Option.bind_some]
    rw [if_neg (by rw [this]; simp)]

theorem PlainW.varsNamed (H : PlainW P S) (f : FuncId) (hf : S f = true) : P.varsNamed f = [] := by
  unfold Program.varsNamed
  have e1 : ((P.closure f).flatMap fun g => ((P.funcs[g]?).bind (·.body)).elim [] Code.globalsNamed) = [] := by
    rw [List.flatMap_eq_nil_iff]
    intro g hg
    cases hfn : P.funcs[g]? with
    | none => rfl
    | some fn =>
      have := (H.fnOk f hf hg hfn).2.1
      simp only [Option.bind_some]
      exact this
  have e2 : ((P.closure f).filterMap fun g => (P.funcs[g]?).bind fun fn => if fn.body.isNone then entryReads.lookup fn.name else none) = [] := by
    rw [List.filterMap_eq_nil_iff]
    intro g hg
    cases hfn : P.funcs[g]? with
    | none => rfl
    | some fn =>
      have := (H.fnOk f hf hg hfn).2.2
      simp only [Option.bind_some]
      rw [if_neg (by rw [this]; simp)]
  rw [e1, e2]
  rfl

/-- The search over a table of calls. -/
def closT (L : Nat → List Nat) : Nat → List Nat → List Nat → List Nat
  | 0, _, seen => seen.reverse
  | _ + 1, [], seen => seen.reverse
  | n + 1, f :: todo, seen => if seen.contains f then closT L n todo seen else closT L n (L f ++ todo) (f :: seen)

theorem closT_seen (L : Nat → List Nat) {x : Nat} : ∀ (n : Nat) (todo seen : List Nat), x ∈ seen → x ∈ closT L n todo seen
  | 0, todo, seen, h => by unfold closT; simpa using h
  | n + 1, [], seen, h => by unfold closT; simpa using h
  | n + 1, f :: todo, seen, h => by
    unfold closT
    split
    · exact closT_seen L n todo seen h
    · exact closT_seen L n _ _ (List.mem_cons_of_mem _ h)

theorem closT_more (L : Nat → List Nat) {x : Nat} (m : Nat) : ∀ (n : Nat) (todo seen : List Nat), x ∈ closT L n todo seen → x ∈ closT L (n + m) todo seen
  | 0, todo, seen, h => by unfold closT at h; exact closT_seen L _ _ _ (by simpa using h)
  | n + 1, [], seen, h => by unfold closT at h; exact closT_seen L _ _ _ (by simpa using h)
  | n + 1, f :: todo, seen, h => by
    rw [Nat.add_right_comm]
    unfold closT at h ⊢
    split
    · rename_i hc
      rw [if_pos hc] at h
      exact closT_more L m n todo seen h
    · rename_i hc
      rw [if_neg hc] at h
      exact closT_more L m n _ _ h

/-- The table tells what each function of the set calls. -/
structure TellsL (P : Program) (S : Nat → Bool) (L : Nat → List Nat) : Prop where
  ok : ∀ g, S g = true → (P.funcs[g]?).elim [] P.leadsTo = L g ∧ ∀ h ∈ L g, S h = true

theorem TellsL.via {L : Nat → List Nat} (H : TellsL P S L) : ∀ (n : Nat) (todo seen : List Nat), (∀ x ∈ todo, S x = true) → P.closureVia n todo seen = closT L n todo seen
  | 0, todo, seen, _ => by unfold Program.closureVia closT; rfl
  | n + 1, [], seen, _ => by unfold Program.closureVia closT; rfl
  | n + 1, f :: todo, seen, ht => by
    unfold Program.closureVia closT
    have hf := H.ok f (ht f List.mem_cons_self)
    rw [hf.1]
    split
    · exact H.via n todo seen fun x hx => ht x (List.mem_cons_of_mem _ hx)
    · refine H.via n _ _ fun x hx => ?_
      rcases List.mem_append.1 hx with hx | hx
      · exact hf.2 x hx
      · exact ht x (List.mem_cons_of_mem _ hx)

theorem sum_ge (F : Func → Nat) (hF : ∀ g, 1 ≤ F g) : ∀ l : List Func, l.length ≤ (l.map F).sum
  | [] => by simp
  | a :: r => by have := sum_ge F hF r; have := hF a; simp only [List.length_cons, List.map_cons, List.sum_cons]; omega

theorem TellsL.mem {L : Nat → List Nat} (H : TellsL P S L) {f x K : Nat} (hf : S f = true) (hK : K ≤ P.funcs.size) (hx : x ∈ closT L K [f] []) : x ∈ P.closure f := by
  unfold Program.closure
  rw [H.via _ _ _ (by simpa using hf)]
  have h1 := sum_ge (fun g => (P.leadsTo g).length + 1) (fun g => by omega) P.funcs.toList
  rw [Array.length_toList] at h1
  obtain ⟨d, hd⟩ : ∃ d, 1 + (P.funcs.toList.map fun g => (P.leadsTo g).length + 1).sum = K + d := ⟨1 + (P.funcs.toList.map fun g => (P.leadsTo g).length + 1).sum - K, by omega⟩
  rw [hd]
  exact closT_more L d K _ _ hx

theorem unfollowed_of {f x : Nat} (hx : x ∈ P.closure f) (h : ((P.funcs[x]?).any fun fn => match fn.body with | some c => c.unfollowed | none => entryCalls fn) = true) : P.unfollowed f = true := by
  unfold Program.unfollowed
  exact List.any_eq_true.2 ⟨x, hx, h⟩

theorem recurses_of {f : Nat} (h : P.unfollowed f = true) : P.recurses f = true := by
  unfold Program.recurses
  rw [h, Bool.true_or]
end

end Go.Proofs.Ytkmblobfamhoiaa
