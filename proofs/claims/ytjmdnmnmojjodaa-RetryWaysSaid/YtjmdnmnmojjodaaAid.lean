/-
  Small laws for the walk: a struct built out of known parts.
-/
import Derived.Test.YtjmdnmnmojjodaaRows
import Derived.WalkKit
namespace Go.Proofs.Ytjmdnmnmojjodaa

section
variable {P : Program} {ops : Array Oper} {Q : Exit → Act → World → Prop} {a : Act} {w : World} {rest : List Oper} {o : Oper}

theorem wp_build {K : Act → World → Prop} {t : TypeId} {parts : Array (Nat × Operand)} (ho : o.op = .build t parts) {v : Value} {vs : Array (Nat × Value)}
    (hv : (parts.map fun x => (x.1, a.eval x.2)) = vs) (hrun : ∀ W : World, (Instr.build t vs).run P W = .ok v W) (h : K (a.put o.dst v) w) : o.wp P a w K Q := by
  unfold Oper.wp execOp
  simp only [ho, Sem.run_bind, Sem.run_pure]
  have e : (parts.map fun (x : Nat × Operand) => match x with | (i, x) => (i, a.eval x)) = vs := hv
  rw [e, hrun]
  exact h

theorem wpList_build (hgd : o.guard = none) {t : TypeId} {parts : Array (Nat × Operand)} (ho : o.op = .build t parts) {v : Value} {vs : Array (Nat × Value)}
    (hv : (parts.map fun x => (x.1, a.eval x.2)) = vs) (hrun : ∀ W : World, (Instr.build t vs).run P W = .ok v W) (h : wpList P ops Q rest (a.put o.dst v) w) : wpList P ops Q (o :: rest) a w :=
  wpList_plain hgd fun _ hK => wp_build ho hv hrun (hK _ _ h)
end

end Go.Proofs.Ytjmdnmnmojjodaa
