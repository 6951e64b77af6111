/- The proof, part 23 of 24. -/
import Derived.Test.YtjoefngnjoofeaaDoorPackOneL
import Derived.Test.YtjoefngnjoofeaaDoorPackOneV
import Derived.Test.YtjoefngnjoofeaaDoorRows
import Derived.Stop.LaidErr
import Derived.Lay
import Derived.LaidSub
set_option linter.all false
namespace Go.Proofs.YtjoefngnjoofeaaDoor
open Go.ChangeShapes Go.WideShapes Go.ChangeAt Go.RowKit Go.Lib Go.Deep
namespace Row
open Eng
set_option maxRecDepth 100000
theorem laid_get {P : Program} {W : World} : ∀ {l : List (String × DataW Unit)} {ps : List MemPlace} {q : String × DataW Unit}, DataW.LaidVars P W l ps → q ∈ l →
    ∃ g t cs fuel p, P.globalNamed q.1 = some g ∧ (P.globals[g]?).map (·.type) = some t ∧ W.var? P q.1 = some cs ∧ DataW.trod (fun _ => ()) P W 0 (fun _ => true) false fuel t cs.toList = some (q.2, p)
 | [], _, _, _, h => by cases h
 | (n, d) :: r, ps, q, hv, h => by
  obtain ⟨g, t, cs, fuel, p, q', e1, e2, e3, e4, hr, _⟩ := hv
  rcases List.mem_cons.1 h with rfl | h
  ·exact ⟨g, t, cs, fuel, p, e1, e2, e3, e4⟩
  ·exact laid_get hr h
theorem var_heap {P : Program} {W : World} {n : String} {g : Nat} {cs : Array Value} (hv : W.var? P n = some cs) (hg : P.globalNamed n = some g) : ∃ t fz, W.heap[g]? = some (.cells cs t fz) := by
 unfold World.var? at hv
 rw [hg] at hv
 simp only [Option.bind_some] at hv
 split at hv
 ·rename_i c t fz e
  obtain rfl := Option.some.inj hv
  exact ⟨t, fz, e⟩
 ·cases hv
theorem amb_of {W : World} (h : laidMetH Tryd.prog Rows.packSumsRow.laid W) : Amb W := by
 rw [MakeChecks.laidMetH_plain _ _ _ (by kernel_rfl)] at h
 obtain ⟨ps, hl, _⟩ := h
 intro q hq
 unfold glist at hq
 simp only [List.nil_append, List.cons_append, List.mem_cons, List.not_mem_nil, or_false] at hq
 obtain rfl := hq
 obtain ⟨g, t, cs, fuel, p, h1, h2, h3, h4⟩ := laid_get (q := (_, Rows.laid_internal_strconv_uint64pow10)) hl (.tail _ (.tail _ (.head _)))
 obtain rfl := Option.some.inj ((show _ = some 0 by kernel_rfl).symm.trans h1)
 obtain rfl := Option.some.inj ((show _ = some 149 by kernel_rfl).symm.trans h2)
 have e : (Rows.laid_internal_strconv_uint64pow10 : DataW Unit) = Lib.tabData .u64 Lib.pow10Tab := by kernel_rfl
 have h4 : DataW.trod (fun _ => ()) Tryd.prog W 0 (fun _ => true) false fuel 149 cs.toList = some (Rows.laid_internal_strconv_uint64pow10, p) := h4
 rw [e] at h4
 have hc := Lib.cells_of_tab Tryd.underlying149 Tryd.underlying51 (by kernel_rfl) (by kernel_rfl) h4
 obtain ⟨t', fz, hh⟩ := var_heap h3 h1
 exact ⟨cs, t', fz, hh, by simp only; rw [← hc]⟩
theorem opens_object : Opens 23 (Int × List UInt8) (fun s => [.int .i64 s.1, .str s.2]) (fun s => (-9223372036854775808 ≤ s.1 ∧ s.1 ≤ 9223372036854775807) ∧ s.2.length ≤ 140737488351232) (fun _ => 0) :=
 (opens_struct Tryd.underlying23 rfl (e := 2) (by kernel_rfl) (fo_cons (k := 1) (opens_int Tryd.underlying3) rfl (by kernel_rfl) (fo_cons (k := 1) (opens_str Tryd.underlying9) rfl (by kernel_rfl) fo_nil))).map
  (fun a => (⟨a.1, a.2.1⟩ : Int × List UInt8)) (fun a => rfl) (fun a h => ⟨h.1, h.2.1⟩) (fun a => Nat.zero_le _)
end Row
namespace Pk
noncomputable def laidWorld (os : Os) : World := World.laidAll Tryd.prog os Rows.packSumsRow.laid
theorem laid_met (os : Os) (args : Array Value) : laidMetH Tryd.prog Rows.packSumsRow.laid ((laidWorld os).forCall (fun _ _ => 0) ⟨#[], args, []⟩).memory := by
 rw [MakeChecks.laidMetH_plain _ _ _ (by kernel_rfl)]
 exact laidMet_laidAll _ (by kernel_rfl) (by kernel_rfl)
end Pk
end Go.Proofs.YtjoefngnjoofeaaDoor
