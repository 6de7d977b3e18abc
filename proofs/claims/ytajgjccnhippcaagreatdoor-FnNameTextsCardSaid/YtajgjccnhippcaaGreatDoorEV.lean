/-
  The library's own errors, out of what a row lists: interface values that are not nil.
-/
import Derived.Test.YtajgjccnhippcaaGreatDoorW
import Derived.LaidSub
import Derived.MakeChecks
import Derived.Stop.LaidErr
namespace Go.Proofs.YtajgjccnhippcaaGreatDoor
open Go.RowKit

/-- The variables ErrSyntax and ErrRange hold errors. -/
def ErrW (w : World) : Prop := (∃ te pe, w.cell? ⟨1, 0, none⟩ = some (.iface te pe)) ∧ ∃ te pe, w.cell? ⟨2, 0, none⟩ = some (.iface te pe)
theorem ErrW.ext {w w' : World} (h : ErrW w) (x : Ext w w') : ErrW w' := by
  obtain ⟨⟨t1, p1, h1⟩, t2, p2, h2⟩ := h
  exact ⟨⟨t1, p1, (Below.cell x (World.block_lt_of_cell? w _ h1)).trans h1⟩, t2, p2, (Below.cell x (World.block_lt_of_cell? w _ h2)).trans h2⟩
theorem star_err : "*" ++ "errors.errorString" = "*errors.errorString" := by decide
theorem row_err (u : TypeId) (h : Tryz.prog.typeName? 3 u = some "*errors.errorString") : u = 252 :=
  typeName_ptr_named (nm := "errors.errorString") (by rw [star_err]; kernel_rfl) (by kernel_rfl) (by decide) u (by rw [star_err]; exact h)
theorem ErrW.of_laid {w : World} {l : List (String × DataW Unit)} (h : laidMetH Tryz.prog l w) (e1 : l.filter (fun x => x.1 == "strconv.ErrSyntax") = [("strconv.ErrSyntax", Rows.laid_strconv_ErrSyntax)])
    (e2 : l.filter (fun x => x.1 == "strconv.ErrRange") = [("strconv.ErrRange", Rows.laid_strconv_ErrRange)]) : ErrW w := by
  have h1 := laidMetH.filter (fun x => x.1 == "strconv.ErrSyntax") h
  have h2 := laidMetH.filter (fun x => x.1 == "strconv.ErrRange") h
  rw [e1, MakeChecks.laidMetH_plain _ _ _ (by kernel_rfl)] at h1
  rw [e2, MakeChecks.laidMetH_plain _ _ _ (by kernel_rfl)] at h2
  have k1 : Tryz.prog.globalNamed "strconv.ErrSyntax" = some 1 := by kernel_rfl
  have k2 : Tryz.prog.globalNamed "strconv.ErrRange" = some 2 := by kernel_rfl
  obtain ⟨a1, s1, v1, _⟩ := laid_sentinel h1 k1 (by kernel_rfl) Tryz.underlying154 row_err Tryz.underlying252 Tryz.underlying254 rfl rfl Tryz.underlying9 (by kernel_rfl) (by kernel_rfl)
  obtain ⟨a2, s2, v2, _⟩ := laid_sentinel h2 k2 (by kernel_rfl) Tryz.underlying154 row_err Tryz.underlying252 Tryz.underlying254 rfl rfl Tryz.underlying9 (by kernel_rfl) (by kernel_rfl)
  exact ⟨⟨_, _, by simpa using World.var?_cell k1 v1 0⟩, _, _, by simpa using World.var?_cell k2 v2 0⟩

end Go.Proofs.YtajgjccnhippcaaGreatDoor
