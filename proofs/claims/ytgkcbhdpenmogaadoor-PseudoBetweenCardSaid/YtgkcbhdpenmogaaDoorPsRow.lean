/- Pseudo: what the listed variables hold, from the rows' condition; a world that meets it. -/
import Derived.Test.YtgkcbhdpenmogaaDoorRowG
import Derived.Test.YtgkcbhdpenmogaaDoorPsMk
import Derived.Test.YtgkcbhdpenmogaaDoorRows
import Derived.Stop.LaidErr
import Derived.Lay
import Derived.LaidSub
set_option linter.all false
namespace Go.Proofs.YtgkcbhdpenmogaaDoor
open Go.ChangeShapes Go.WideShapes Go.ChangeAt Go.RowKit Go.Lib Go.Deep
theorem trodAll_five {H : Type} {enc : TypeId × Value → H} {P : Program} {w : World} {base : Nat} {spare : Nat → Bool} {held : Bool} {t t' t'' t3 t4 : TypeId} {args : Array Value} {ds : List (DataW H)} {ps : List MemPlace} (h : DataW.TrodAll enc P w base spare held [t, t', t'', t3, t4] args.toList ds ps) :
    ∃ v v' v'' v3 v4 d d' d'' d3 d4 p p' p'' p3 p4, args = #[v, v', v'', v3, v4] ∧ ds = [d, d', d'', d3, d4] ∧ ps = p ++ p' ++ p'' ++ p3 ++ p4 ∧ DataW.Trod enc P w base spare held t v d p ∧ DataW.Trod enc P w base spare held t' v' d' p' ∧ DataW.Trod enc P w base spare held t'' v'' d'' p'' ∧ DataW.Trod enc P w base spare held t3 v3 d3 p3 ∧ DataW.Trod enc P w base spare held t4 v4 d4 p4 := by
  obtain ⟨v, vs, d, ds1, p, q, hargs, rfl, rfl, hd, hrest⟩ := trodAll_cons h
  obtain ⟨v', vs1, d', ds2, p', q', rfl, rfl, rfl, hd', hrest1⟩ := trodAll_cons hrest
  obtain ⟨v'', vs2, d'', ds3, p'', q'', rfl, rfl, rfl, hd'', hrest2⟩ := trodAll_cons hrest1
  obtain ⟨v3, vs3, d3, ds4, p3, q3, rfl, rfl, rfl, hd3, hrest3⟩ := trodAll_cons hrest2
  obtain ⟨v4, vs4, d4, ds5, p4, q4, rfl, rfl, rfl, hd4, hrest4⟩ := trodAll_cons hrest3
  obtain ⟨rfl, rfl, rfl⟩ := trodAll_nil hrest4
  exact ⟨v, v', v'', v3, v4, d, d', d'', d3, d4, p, p', p'', p3, p4, by cases args; simp_all, rfl, by simp, hd, hd', hd'', hd3, hd4⟩
namespace Row
open Eng
set_option maxRecDepth 100000
theorem laid_get {P : Program} {W : World} : ∀ {l : List (String × DataW Unit)} {ps : List MemPlace} {q : String × DataW Unit}, DataW.LaidVars P W l ps → q ∈ l →
    ∃ g t cs fuel p, P.globalNamed q.1 = some g ∧ (P.globals[g]?).map (·.type) = some t ∧ W.var? P q.1 = some cs ∧ DataW.trod (fun _ => ()) P W 0 (fun _ => true) false fuel t cs.toList = some (q.2, p)
  | [], _, _, _, h => by cases h
  | (n, d) :: r, ps, q, hv, h => by
    obtain ⟨g, t, cs, fuel, p, q', e1, e2, e3, e4, hr, _⟩ := hv
    rcases List.mem_cons.1 h with rfl | h
    · exact ⟨g, t, cs, fuel, p, e1, e2, e3, e4⟩
    · exact laid_get hr h
theorem var_heap {P : Program} {W : World} {n : String} {g : Nat} {cs : Array Value} (hv : W.var? P n = some cs) (hg : P.globalNamed n = some g) : ∃ t fz, W.heap[g]? = some (.cells cs t fz) := by
  unfold World.var? at hv
  rw [hg] at hv
  simp only [Option.bind_some] at hv
  split at hv
  · rename_i c t fz e
    obtain rfl := Option.some.inj hv
    exact ⟨t, fz, e⟩
  · cases hv
/-- what the rows' condition says of the listed variables is what the contracts lean on -/
theorem amb_of {W : World} (h : laidMetH Tryd.prog Rows.pseudoReadsRow.laid W) : Amb W := by
  rw [MakeChecks.laidMetH_plain _ _ _ (by kernel_rfl)] at h
  obtain ⟨ps, hl, _⟩ := h
  intro q hq
  unfold glist at hq
  simp only [List.nil_append, List.cons_append, List.mem_cons, List.not_mem_nil, or_false] at hq
  obtain rfl := hq
  obtain ⟨g, t, cs, fuel, p, h1, h2, h3, h4⟩ := laid_get (q := (_, Rows.laid_internal_strconv_uint64pow10)) hl (.tail _ (.tail _ (.head _)))
  obtain rfl := Option.some.inj ((show _ = some 3 by kernel_rfl).symm.trans h1)
  obtain rfl := Option.some.inj ((show _ = some 109 by kernel_rfl).symm.trans h2)
  have e : (Rows.laid_internal_strconv_uint64pow10 : DataW Unit) = Lib.tabData .u64 Lib.pow10Tab := by kernel_rfl
  have h4 : DataW.trod (fun _ => ()) Tryd.prog W 0 (fun _ => true) false fuel 109 cs.toList = some (Rows.laid_internal_strconv_uint64pow10, p) := h4
  rw [e] at h4
  have hc := Lib.cells_of_tab Tryd.underlying109 Tryd.underlying98 (by kernel_rfl) (by kernel_rfl) h4
  obtain ⟨t', fz, hh⟩ := var_heap h3 h1
  exact ⟨cs, t', fz, hh, by simp only; rw [← hc]⟩
end Row
namespace Ps
/-- a world that meets the rows' condition -/
noncomputable def laidWorld (os : Os) : World := World.laidAll Tryd.prog os Rows.pseudoReadsRow.laid
theorem laid_met (os : Os) (args : Array Value) : laidMetH Tryd.prog Rows.pseudoReadsRow.laid ((laidWorld os).forCall (fun _ _ => 0) ⟨#[], args, []⟩).memory := by
  rw [MakeChecks.laidMetH_plain _ _ _ (by kernel_rfl)]
  exact laidMet_laidAll _ (by kernel_rfl) (by kernel_rfl)
end Ps
end Go.Proofs.YtgkcbhdpenmogaaDoor
