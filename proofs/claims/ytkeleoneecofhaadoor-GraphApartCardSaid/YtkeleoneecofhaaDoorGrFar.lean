/- Is a step longer than a half? -/
import Derived.Test.YtkeleoneecofhaaDoorGrFlo
set_option linter.all false
namespace Go.Proofs.YtkeleoneecofhaaDoor.Gr
set_option maxRecDepth 10000
def farOK (p q : Nat) : Bool := FloatKind.f64.format.add (FloatKind.f64.nearest ((p : Int) * (p : Int))) (FloatKind.f64.nearest ((q : Int) * (q : Int))) == some (FloatKind.f64.nearest ((p : Int) * (p : Int) + (q : Int) * (q : Int))) &&
  (FloatKind.f64.format.order (FloatKind.f64.nearest ((p : Int) * (p : Int) + (q : Int) * (q : Int))) 4598175219545276416 == some .gt) == decide (0 < p + q)
def farAll : Bool := (List.range 41).all fun p => (List.range 201).all fun q => farOK p q
theorem far_all : farAll = true := by kernel_rfl
theorem f_far {p q : Nat} (hp : p ≤ 40) (hq : q ≤ 200) : FloatKind.f64.format.add (FloatKind.f64.nearest ((p : Int) * (p : Int))) (FloatKind.f64.nearest ((q : Int) * (q : Int))) = some (FloatKind.f64.nearest ((p : Int) * (p : Int) + (q : Int) * (q : Int))) ∧
    (FloatKind.f64.format.order (FloatKind.f64.nearest ((p : Int) * (p : Int) + (q : Int) * (q : Int))) 4598175219545276416 == some .gt) = decide (0 < p + q) := by
  have := List.all_eq_true.1 (List.all_eq_true.1 far_all p (List.mem_range.2 (by omega))) q (List.mem_range.2 (by omega))
  simp only [farOK, Bool.and_eq_true] at this
  exact ⟨eq_of_beq this.1, eq_of_beq this.2⟩
end Go.Proofs.YtkeleoneecofhaaDoor.Gr
