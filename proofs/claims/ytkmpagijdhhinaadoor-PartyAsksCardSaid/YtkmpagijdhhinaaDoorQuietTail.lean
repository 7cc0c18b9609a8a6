/- A region that draws its order, of operations that only read, and a call behind them all: the reading ones by the quiet walk's cheap step. Of no program. -/
import Derived.BigQuiet
import Derived.StillTailTactics
namespace Go.Proofs.YtkmpagijdhhinaaDoor
open Go.RowKit

section
variable {P : Program} {ops : Array Oper} {w : World}
theorem still_of_quiet {o : Oper} {a : Act} {next : Act → Prop} (h : o.quiet P a (fun w' => w' = w) next) : o.still P a w next := by
  obtain ⟨v, h1, h2⟩ := h
  have h1 := h1 w rfl
  unfold Oper.quietAt at h1
  unfold Oper.still
  generalize (execOp a.eval o).run P w = r at *
  cases r with
  | ok n w' =>
    cases n <;> simp only [Oper.quietUpon, Oper.stillUpon] at h1 ⊢
    case value u => obtain ⟨h3, rfl⟩ := h1; exact ⟨h3, h2⟩
    case skip => obtain ⟨h3, rfl⟩ := h1; exact ⟨h3, h2⟩
    case enter f args => exact ⟨h1.1, v, h1.2, h2⟩
  | halt x w' => exact h1.elim
theorem wpStill_of_quiet {Q : Act → Prop} : ∀ (l : List Oper) (a : Act), wpQuiet P ops (fun w' => w' = w) Q l a → wpStill P ops w Q l a
  | [], _, h => h
  | o :: rest, a, h => by
    unfold wpQuiet at h
    unfold wpStill
    split
    · rename_i hw
      rw [if_pos hw] at h
      exact still_of_quiet (Oper.quiet_mono (fun a h => wpStill_of_quiet rest a h) h)
    · rename_i hw
      rw [if_neg hw] at h
      exact wpStill_of_quiet rest _ h
theorem region_quiet_tail {id : Nat} {Q : Exit → Act → World → Prop} {a : Act} {l : List Oper} (n : Nat) (hm : P.follows .mixedOrders = true) (hB : Region.lexTailB .any l.toArray n = true)
    (h : wpQuiet P l.toArray (fun w' => w' = w.drew) (fun a' => wpList P l.toArray Q (l.drop n) a' w.drew) (l.take n) a) : (Code.region id l.toArray true).wp P Q a w :=
  wp_region_still_tail n hm hB (wpStill_of_quiet _ _ h)
end
end Go.Proofs.YtkmpagijdhhinaaDoor
