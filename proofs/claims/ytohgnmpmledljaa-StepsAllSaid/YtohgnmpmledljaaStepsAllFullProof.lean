/-
  StepsAll: of any commands, their course; of any code, whether it is good. No condition: every input.
-/
import Derived.Test.YtohgnmpmledljaaFrame
import Derived.Test.YtohgnmpmledljaaStOpen
import Derived.Test.YtohgnmpmledljaaStAll
import Derived.Test.YtohgnmpmledljaaStWt
namespace Go.Proofs.Ytohgnmpmledljaa.stepsAllFull
open Go.ChangeShapes Go.WideShapes Go.ChangeAt Go.RowKit
set_option linter.unusedVariables false

def unitCells : List TypeId := [9, 3, 9, 4, 45, 3, 3, 3, 46, 46, 46, 46, 46, 4, 3, 3, 3, 3, 47, 48, 49, 47, 3, 9, 9, 47, 47, 47, 49, 4, 49, 49, 49, 49, 9]
theorem unitCells_eq : Try.prog.cellTypes Try.prog.depth 51 = some unitCells := by kernel_rfl

set_option maxRecDepth 100000 in
theorem contract (H : Type) (enc : TypeId × Value → H) (W : World) (base : Nat) (args : Array Value) (ds gs : List (DataW H)) (before : List MemPlace)
    (hval : ∀ (j : Nat) t v, Try.f6.params[j]? = some t → args[j]? = some v → Value.okWide Try.prog W .any base t v)
    (hW : DataW.Whole enc Try.prog Try.f6.params.toList Rows.stepsAllSpec.vars false W args.toList ds gs before)
    (hwt : (DataW.weightsEach Try.prog (Try.f6.params.toList ++ Rows.stepsAllSpec.plain.varTypes Try.prog) (ds ++ gs)).all (· ≤ reachBytes) = true) :
    Calls Try.prog 6 args W fun e W' => ∃ v, e = .returned v ∧ Rows.stepsAllSpec.post enc Try.prog Try.f6 false true false false W args v W' := by
  have hW' := hW
  obtain ⟨p, q, hA0, hV, rfl, hfz, hnd⟩ := hW
  have hA : DataW.TrodAll enc Try.prog W 0 (fun _ => true) true Try.f6.params.toList args.toList ds p := hA0
  rw [Try.params6] at hA hval
  obtain ⟨v0, vs0, d0, ds0, p0, q0, hargs, rfl, rfl, h0, r0⟩ := trodAll_cons hA
  obtain ⟨v1, vs1, d1, ds1, p1, q1, rfl, rfl, rfl, h1, r1⟩ := trodAll_cons r0
  obtain ⟨v2, vs2, d2, ds2, p2, q2, rfl, rfl, rfl, h2, r2⟩ := trodAll_cons r1
  obtain ⟨v3, vs3, d3, ds3, p3, q3, rfl, rfl, rfl, h3, r3⟩ := trodAll_cons r2
  obtain ⟨v4, vs4, d4, ds4, p4, q4, rfl, rfl, rfl, h4, r4⟩ := trodAll_cons r3
  obtain ⟨v5, vs5, d5, ds5, p5, q5, rfl, rfl, rfl, h5, r5⟩ := trodAll_cons r4
  obtain ⟨v6, vs6, d6, ds6, p6, q6, rfl, rfl, rfl, h6, r6⟩ := trodAll_cons r5
  obtain ⟨v7, vs7, d7, ds7, p7, q7, rfl, rfl, rfl, h7, r7⟩ := trodAll_cons r6
  obtain ⟨v8, vs8, d8, ds8, p8, q8, rfl, rfl, rfl, h8, r8⟩ := trodAll_cons r7
  obtain ⟨rfl, rfl, rfl⟩ := trodAll_nil r8
  obtain rfl : args = #[v0, v1, v2, v3, v4, v5, v6, v7, v8] := by cases args; simp_all
  obtain ⟨rfl, rfl⟩ := trodVars_none hV
  clear hA0 hA hargs
  have hB0 : ∀ q ∈ d0.weights Try.prog 44, q ≤ reachBytes := fun q hq => of_decide_eq_true (List.all_eq_true.1 hwt q (DataW.weights_mem_each (j := 0) (t := 44) (d := d0) (by rw [Try.params6]; rfl) rfl q hq))
  obtain ⟨aa, na, ca, ab, nb, cb, ak, nk, ck, l, rfl, hworld⟩ := open_world (hval 0 44 v0 rfl rfl) h0
  have hli := wt_world h0 rfl hworld.acts hB0 (by decide)
  obtain ⟨cs, rfl, hsz, hcs⟩ := okWide_cells (ts := unitCells) Try.underlying51 unitCells_eq (by kernel_rfl) (hval 1 51 v1 rfl rfl)
  obtain ⟨x0, e0, k0⟩ := hcs 0 9 rfl
  obtain ⟨u, rfl⟩ := cell_str Try.underlying9 k0
  obtain ⟨x7, e7, k7⟩ := hcs 7 3 rfl
  obtain ⟨ty, rfl, -⟩ := cell_int Try.underlying3 k7
  obtain ⟨part, rfl, rfl, rfl, w2⟩ := open_int Try.underlying3 (hval 2 3 v2 rfl rfl) h2
  obtain ⟨la, ln, lc, ds, rfl, hex, hln⟩ := open_execs (hval 3 46 v3 rfl rfl) h3
  obtain ⟨sa, sn, sc, zs, rfl, hz, hbig, -⟩ := open_intsIn (hval 4 47 v4 rfl rfl) h4
  obtain ⟨att, rfl, rfl, rfl, w5⟩ := open_int Try.underlying3 (hval 5 3 v5 rfl rfl) h5
  obtain ⟨now, rfl, rfl, rfl, w6⟩ := open_int Try.underlying3 (hval 6 3 v6 rfl rfl) h6
  obtain ⟨over, rfl, rfl, rfl, w7⟩ := open_int Try.underlying3 (hval 7 3 v7 rfl rfl) h7
  obtain ⟨code, rfl, rfl, rfl, w8⟩ := open_int Try.underlying3 (hval 8 3 v8 rfl rfl) h8
  refine (all_any l cs u ty part att now over code aa na ca ab nb cb ak nk ck la ln lc ds sa sn sc zs W hworld.acts hworld.na_ hli hsz e0 e7 hex hln hz hbig).mono fun e W' ⟨he, hb⟩ => ?_
  subst he
  exact ⟨_, rfl, law_post laidOut rfl Try.underlying4 rfl (by rw [Try.params6]; decide +kernel) hW' rfl rfl rfl hb⟩

set_option maxRecDepth 100000 in
theorem lifted (os : Os) (started : os.Started) (H : Type) (enc : TypeId × Value → H) :
    ReturnsInHanded {} Try.checked os 6 .any (Rows.stepsAllSpec.pre6 enc Try.prog Try.f6 Rows.stepsAllRow.domain false) (Rows.stepsAllSpec.post enc Try.prog Try.f6 false true false false) := by
  refine returnsInHanded_of_change_sized (C := Try.checked) own started (by kernel_rfl) Try.func6
    (ChangeSpec.witness6 (enc := enc) (C := Try.checked) false ⟨#[], #[.agg #[.slice none 0 0, .slice none 0 0, .slice none 0 0], .agg #[.string ByteArray.empty, .int .i64 0, .string ByteArray.empty, .bool false, .slice none 0 0, .int .i64 0, .int .i64 0, .int .i64 0, .slice none 0 0, .slice none 0 0, .slice none 0 0, .slice none 0 0, .slice none 0 0, .bool false, .int .i64 0, .int .i64 0, .int .i64 0, .int .i64 0, .slice none 0 0, .slice none 0 0, .slice none 0 0, .slice none 0 0, .int .i64 0, .string ByteArray.empty, .string ByteArray.empty, .slice none 0 0, .slice none 0 0, .slice none 0 0, .slice none 0 0, .bool false, .slice none 0 0, .slice none 0 0, .slice none 0 0, .slice none 0 0, .string ByteArray.empty], .int .i64 0, .slice none 0 0, .slice none 0 0, .int .i64 0, .int .i64 0, .int .i64 0, .int .i64 0], []⟩ 8 (by kernel_rfl) (by kernel_rfl) (by kernel_rfl) (by kernel_rfl)) ?_
  intro W base args ds gs before hval hW _ hwt _
  exact contract H enc W base args ds gs before hval hW hwt

theorem over : Rows.stepsAllRow.holds Try.pinned (OpenSpec.ofChange Rows.stepsAllSpec) :=
  OpenClaim.holds_of_wide 6 Try.f6 rfl rfl rfl rfl rfl rfl rfl ⟨rfl, rfl, rfl, rfl, rfl⟩ rfl rfl rfl rfl rfl (by kernel_rfl) Try.func6 (by kernel_rfl)
    (of_decide_eq_true (by kernel_rfl)) (by unfold Func.isWrapper; first | (rw [if_pos (by decide +kernel)]; kernel_rfl) | (rw [if_neg (by decide +kernel)]; exact ⟨rfl, rfl⟩))
    (fun os started H enc _ => lifted os started H enc)

/-- The statement. -/
theorem proved : Rows.StepsAllSaid :=
  over
#print axioms proved
end Go.Proofs.Ytohgnmpmledljaa.stepsAllFull
