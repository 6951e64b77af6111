/- objects: what the listed variables hold, from the rows' condition; a world that meets it. -/
import Derived.Test.YtlnplfjcnncakaaDoorRowA
import Derived.Test.YtlnplfjcnncakaaDoorRows
import Derived.Stop.LaidErr
import Derived.Lay
import Derived.LaidSub
set_option linter.all false
namespace Go.Proofs.YtlnplfjcnncakaaDoor
open Go.ChangeShapes Go.WideShapes Go.ChangeAt Go.RowKit Go.Lib Go.Deep
namespace Row
open Eng
set_option maxRecDepth 100000
theorem laid_get {P : Program} {W : World} : ∀ {l : List (String × DataW Unit)} {ps : List MemPlace} {q : String × DataW Unit}, DataW.LaidVars P W l ps → q ∈ l →
    ∃ g t cs fuel p, P.globalNamed q.1 = some g ∧ (P.globals[g]?).map (·.type) = some t ∧ W.var? P q.1 = some cs ∧ DataW.trod (fun _ => ()) P W 0 (fun _ => true) false fuel t cs.toList = some (q.2, p)
  | [], _, _, _, h => by cases h
  | (n, d) :: r, ps, q, hv, h => by
    obtain ⟨g, t, cs, fuel, p, q', e1, e2, e3, e4, hr, _⟩ := hv
    rcases List.mem_cons.1 h with rfl | h
    · exact ⟨g, t, cs, fuel, p, e1, e2, e3, e4⟩
    · exact laid_get hr h
theorem var_heap {P : Program} {W : World} {n : String} {g : Nat} {cs : Array Value} (hv : W.var? P n = some cs) (hg : P.globalNamed n = some g) : ∃ t fz, W.heap[g]? = some (.cells cs t fz) := by
  unfold World.var? at hv
  rw [hg] at hv
  simp only [Option.bind_some] at hv
  split at hv
  · rename_i c t fz e
    obtain rfl := Option.some.inj hv
    exact ⟨t, fz, e⟩
  · cases hv
theorem iface_of_trod {H : Type} {enc : TypeId × Value → H} {P : Program} {W : World} {base fuel : Nat} {sp : Nat → Bool} {held : Bool} {t : TypeId} {cs : List Value} {nm : String} {d : DataW H} {p : List MemPlace} {ms : Array (String × TypeId)}
    (hi : P.underlying t = some (.interface ms)) (h : DataW.trod enc P W base sp held fuel t cs = some (.iface nm d, p)) : ∃ u v, cs = [.iface u v] := by
  cases fuel with
  | zero => simp [DataW.trod] at h
  | succ fuel =>
    simp only [DataW.trod, hi] at h
    split at h <;> first | (rename_i e _; cases e; done) | skip
    all_goals first | exact ⟨_, _, rfl⟩ | simp_all
/-- what the rows' condition says of the listed variables is what the contracts lean on -/
theorem amb_of {W : World} (h : laidMetH Tryd.prog Rows.objectNumbersRow.laid W) : Amb W := by
  rw [MakeChecks.laidMetH_plain _ _ _ (by kernel_rfl)] at h
  obtain ⟨ps, hl, _⟩ := h
  intro q hq
  unfold glist at hq
  simp only [List.nil_append, List.cons_append, List.mem_cons, List.not_mem_nil, or_false] at hq
  rcases hq with rfl | rfl | rfl
  · obtain ⟨g, t, cs, fuel, p, h1, h2, h3, h4⟩ := laid_get (q := (_, Rows.laid_internal_strconv_uint64pow10)) hl (.tail _ (.tail _ (.head _)))
    obtain rfl := Option.some.inj ((show _ = some 3 by kernel_rfl).symm.trans h1)
    obtain rfl := Option.some.inj ((show _ = some 103 by kernel_rfl).symm.trans h2)
    have e : (Rows.laid_internal_strconv_uint64pow10 : DataW Unit) = Lib.tabData .u64 Lib.pow10Tab := by kernel_rfl
    have h4 : DataW.trod (fun _ => ()) Tryd.prog W 0 (fun _ => true) false fuel 103 cs.toList = some (Rows.laid_internal_strconv_uint64pow10, p) := h4
    rw [e] at h4
    have hc := Lib.cells_of_tab Tryd.underlying103 Tryd.underlying56 (by kernel_rfl) (by kernel_rfl) h4
    obtain ⟨t', fz, hh⟩ := var_heap h3 h1
    exact ⟨cs, t', fz, hh, by simp only; rw [← hc]⟩
  · obtain ⟨g, t, cs, fuel, p, h1, h2, h3, h4⟩ := laid_get (q := (_, Rows.laid_strconv_ErrSyntax)) hl (.tail _ (.tail _ (.tail _ (.tail _ (.head _)))))
    obtain rfl := Option.some.inj ((show _ = some 0 by kernel_rfl).symm.trans h1)
    obtain rfl := Option.some.inj ((show _ = some 44 by kernel_rfl).symm.trans h2)
    obtain ⟨u, v, hc⟩ := iface_of_trod Tryd.underlying44 (show DataW.trod (fun _ => ()) Tryd.prog W 0 (fun _ => true) false fuel 44 cs.toList = some (.iface _ _, p) from h4)
    obtain ⟨t', fz, hh⟩ := var_heap h3 h1
    exact ⟨cs, t', fz, hh, .iface u v, by apply Array.ext'; simpa using hc, rfl⟩
  · obtain ⟨g, t, cs, fuel, p, h1, h2, h3, h4⟩ := laid_get (q := (_, Rows.laid_strconv_ErrRange)) hl (.tail _ (.tail _ (.tail _ (.head _))))
    obtain rfl := Option.some.inj ((show _ = some 1 by kernel_rfl).symm.trans h1)
    obtain rfl := Option.some.inj ((show _ = some 44 by kernel_rfl).symm.trans h2)
    obtain ⟨u, v, hc⟩ := iface_of_trod Tryd.underlying44 (show DataW.trod (fun _ => ()) Tryd.prog W 0 (fun _ => true) false fuel 44 cs.toList = some (.iface _ _, p) from h4)
    obtain ⟨t', fz, hh⟩ := var_heap h3 h1
    exact ⟨cs, t', fz, hh, .iface u v, by apply Array.ext'; simpa using hc, rfl⟩
/-- an object that comes in -/
theorem open_obj {H : Type} {enc : TypeId × Value → H} {W : World} {base : Nat} {v : Value} {d : DataW H} {p : List MemPlace} (hv : Value.okWide Tryd.prog W .any base 28 v) (h : DataW.Trod enc Tryd.prog W 0 (fun _ => true) true 28 v d p) :
    ∃ (n : Int) (s : ByteArray), v = .agg #[.int .i64 n, .string s] ∧ d = .agg [.lit (.int .i64 n), .lit (.string s.data.toList)] ∧ p = [] ∧ (Lit.int .i64 n).wf = true ∧ s.size ≤ maxLen ∧ RV (fun _ => False) W noLoc v (.agg [.int .i64 n, .str s.data.toList]) := by
  obtain ⟨cs, rfl, hc⟩ := okWide_struct Tryd.underlying28 hv
  obtain ⟨fuel, hf⟩ := h
  obtain ⟨y0, y1, m, hx, hlen, h0, h1⟩ := trod_struct2 Tryd.underlying28 hf
  have c1 : Tryd.prog.cellsOf 3 = 1 := by kernel_rfl
  have c2 : Tryd.prog.cellsOf 9 = 1 := by kernel_rfl
  have c3 : Tryd.prog.cellsOf 28 = 2 := by kernel_rfl
  obtain ⟨l⟩ := cs
  rw [c3] at hc
  match l, hc with
  | [a, b], _ =>
    simp only [Value.cells, List.drop_zero, c1, c2, List.take_succ_cons, List.take_zero, List.drop_succ_cons] at h0 h1
    obtain ⟨n, e1, e2, e3⟩ := DataW.trod_int Tryd.underlying3 h0
    obtain ⟨s, e4, e5, e6⟩ := DataW.trod_string Tryd.underlying9 h1
    simp only [List.cons.injEq, and_true] at e1 e4
    subst e1 e4 e2 e5
    simp only [Prod.mk.injEq] at hx
    obtain ⟨rfl, rfl⟩ := hx
    refine ⟨n, s, rfl, rfl, rfl, e3, e6, .agg _ _ _ rfl (fun j v x g1 g2 => ?_)⟩
    match j with
    | 0 => simp at g1 g2; subst g1; subst g2; exact .int _ _ _
    | 1 => simp at g1 g2; subst g1; subst g2; exact rv_str s
    | j + 2 => simp at g2
end Row
namespace Ob
/-- a world that meets the rows' condition -/
noncomputable def laidWorld (os : Os) : World := World.laidAll Tryd.prog os Rows.objectNumbersRow.laid
theorem laid_met (os : Os) (args : Array Value) : laidMetH Tryd.prog Rows.objectNumbersRow.laid ((laidWorld os).forCall (fun _ _ => 0) ⟨#[], args, []⟩).memory := by
  rw [MakeChecks.laidMetH_plain _ _ _ (by kernel_rfl)]
  exact laidMet_laidAll _ (by kernel_rfl) (by kernel_rfl)
end Ob
end Go.Proofs.YtlnplfjcnncakaaDoor
