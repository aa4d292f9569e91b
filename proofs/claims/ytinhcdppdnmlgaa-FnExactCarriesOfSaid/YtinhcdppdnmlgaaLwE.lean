/- Helpers of the exact laws of turns of engines: marks laid beside other memory. -/
import Derived.Test.YtinhcdppdnmlgaaLwD
import Derived.Test.YtinhcdppdnmlgaaGrG
namespace Go.Proofs.Ytinhcdppdnmlgaa
open Go.RowKit
set_option maxRecDepth 4000

theorem sEngineValid_e (n : Nat) (A : Option Addr) (c : Nat) (cs : List ByteArray) (b : Bool) (w : World) (hn : cs.length = n) (h : SS w A cs) (hs : Short cs) (hb : engV cs = b) :
    Calls Try.prog 13 #[.agg #[.slice A n c]] w fun e w' => e = .returned (.bool b) ∧ Below w.heap.size w w' := sEngineValid_b n A c cs b w hn h hs hb

theorem sz_alloc (w : World) (o : Obj) : (w.alloc o).heap.size = w.heap.size + 1 := by simp
theorem sz_drew (w : World) : w.drew.heap.size = w.heap.size := rfl

/-- The call changed no block below the caller's but A's. -/
def Beside (A : Option Addr) (w w' : World) : Prop := w.grownBy w' (A.map Addr.block)
theorem Beside.of {A : Option Addr} {B : Nat} {w w' : World} (hb : Below B w w') (h : ∀ g, (∀ a, A = some a → a.block ≠ g) → g < w.heap.size → w'.heap[g]? = w.heap[g]?) : Beside A w w' := by
  refine ⟨hb.os, hb.tape, hb.output, hb.size, fun k hk hne => h k (fun a ha he => hne ?_) hk⟩
  subst ha he; rfl
/-- A list's own block lies from lo up to hi. -/
def In (A : Option Addr) (lo hi : Nat) : Prop := ∀ r, A.map Addr.block = some r → lo ≤ r ∧ r < hi
theorem In.of {α : Type} {f : α → Value} {E : TypeId} {B : Nat} {w : World} {A : Option Addr} {c : Nat} {xs : List α} (h : OwnG f E B w A c xs) : In A B w.heap.size := by
  intro r hr
  cases A with
  | none => simp at hr
  | some a => simp at hr; subst hr; exact h.2.lt a.block rfl
theorem Cl.beside {w w' : World} {g : Nat} {v : Value} {A : Option Addr} {lo hi : Nat} (h : Cl w g v) (b : Beside A w w') (i : In A lo hi) (hg : g < lo ∨ hi ≤ g) : Cl w' g v := by
  have hb : w'.heap[g]? = w.heap[g]? := b.block g h.2.2 (fun e => by have := i g e.symm; omega)
  refine ⟨?_, ?_, Nat.lt_of_lt_of_le h.2.2 b.size⟩
  · rw [World.cell?_of_block (w := w) hb]; exact h.1
  · rw [World.frozen?_of_block (w := w) hb]; exact h.2.1
theorem OwnG.beside_lo {α : Type} {f : α → Value} {E : TypeId} {B : Nat} {w w' : World} {A A' : Option Addr} {c lo hi : Nat} {xs : List α} (h : OwnG f E B w A' c xs) (b : Beside A w w') (i : In A lo hi) (hB : hi ≤ B) : OwnG f E B w' A' c xs :=
  h.keep_lo b fun r hr => by have := i r hr; omega
theorem OwnG.beside_hi {α : Type} {f : α → Value} {E : TypeId} {B : Nat} {w w' : World} {A A' : Option Addr} {c lo hi lo' hi' : Nat} {xs : List α} (h : OwnG f E B w A' c xs) (b : Beside A w w') (i : In A lo hi) (i' : In A' lo' hi') (hB : hi' ≤ lo) : OwnG f E B w' A' c xs :=
  h.keep_hi (U := lo) (fun g hg => by
    cases A' with
    | none => simp [Value.ownBlock] at hg
    | some a =>
      have h1 : a.block = g := by simpa [Value.ownBlock] using hg
      have := i' a.block rfl
      omega) b fun r hr => (i r hr).1

theorem turnF_length {f : List Int → List Int} {cs z : List ByteArray} (hf : ∀ vs, (f vs).length = vs.length) (h : (turnF f cs).getD [] = z) : z.length ≤ 1048576 := by
  subst h
  cases hv : engV cs
  · rw [turnF_none hv]; simp
  · rw [turnF_some hv]
    have := (engV_vals hv).2.2.2.2
    simp only [Option.getD_some, eng_length, hf]
    omega

end Go.Proofs.Ytinhcdppdnmlgaa
