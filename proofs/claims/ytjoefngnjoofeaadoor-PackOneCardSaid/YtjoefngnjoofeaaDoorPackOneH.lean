/- The proof, part 8 of 24. -/
import Derived.Test.YtjoefngnjoofeaaDoorPackOneF
import Derived.RangeFuncSeq
import Derived.RangeFuncIn
import Derived.RangeFuncBox
set_option linter.all false
namespace Go.Proofs.YtjoefngnjoofeaaDoor.Eng
open Go.RowKit
def OneCell (W : World) (b : Nat) (v : Value) : Prop := ∃ t, W.heap[b]? = some (Obj.cells #[v] t (0, 0))
structure GrowBut (b : Nat) (W W' : World) : Prop where
 os : W'.os = W.os
 tape : W'.tape = W.tape
 output : W'.output = W.output
 size : W.heap.size ≤ W'.heap.size
 block : ∀ k, k < W.heap.size → k ≠ b → W'.heap[k]? = W.heap[k]?
 cells : ∀ cur t fz, W.heap[b]? = some (Obj.cells cur t fz) → ∃ cur t fz, W'.heap[b]? = some (Obj.cells cur t fz)
theorem OneCell.lt {W : World} {b : Nat} {v : Value} (h : OneCell W b v) : b < W.heap.size := by
 obtain ⟨t, h⟩ := h
 exact (Array.getElem?_eq_some_iff.1 h).1
theorem OneCell.turn {W W' : World} {b : Nat} {v : Value} (h : OneCell W b v) (hb : W'.heap[b]? = W.heap[b]?) : OneCell W' b v := by
 obtain ⟨t, h1⟩ := h
 exact ⟨t, hb.trans h1⟩
theorem OneCell.cell {W : World} {b : Nat} {v : Value} (h : OneCell W b v) : W.cell? ⟨b, 0, none⟩ = some v := by
 obtain ⟨t, h⟩ := h
 exact Boxed.cell h
theorem OneCell.frozen {W : World} {b : Nat} {v : Value} (h : OneCell W b v) : W.frozen? ⟨b, 0, none⟩ = false := by
 obtain ⟨t, h⟩ := h
 exact Boxed.frozen h
theorem OneCell.set {W : World} {b : Nat} {v : Value} (v' : Value) (h : OneCell W b v) : OneCell (W.setCell ⟨b, 0, none⟩ v') b v' := by
 obtain ⟨t, h⟩ := h
 exact ⟨t, Boxed.set v' h⟩
theorem OneCell.other {W : World} {b b' : Nat} {v : Value} (h : OneCell W b v) (hne : b ≠ b') (v' : Value) : OneCell (W.setCell ⟨b', 0, none⟩ v') b v := h.turn (Below.heap_setCell _ _ _ b hne)
def ghost : List (Nat × AV) → List (Nat × AV)
 | [] => []
 | (k, v) :: r => (3000000 + k, v) :: ghost r
theorem sget_ghost' : ∀ (s : List (Nat × AV)) (k : Nat) (v : AV), sget (ghost s) k = some v → 3000000 ≤ k ∧ sget s (k - 3000000) = some v
 | [], k, v, h => by simp [ghost, sget] at h
 | (j, u) :: r, k, v, h => by
  simp only [ghost, sget] at h
  split at h
  ·rename_i e; subst e
   refine ⟨by omega, ?_⟩
   rw [show 3000000 + j - 3000000 = j by omega]
   simpa [sget] using h
  ·obtain ⟨h1, h2⟩ := sget_ghost' r k v h
   refine ⟨h1, ?_⟩
   simp only [sget]
   rw [if_neg (by omega)]
   exact h2
section
variable {E : Env} {ρ : Loc} {st : St} {a : Act} {w : World}
theorem RelAt.apart (h : RelAt E ρ st a w) {w1 : World} (hs : Same w w1) (Y : Nat → Prop) (hY : ∀ b, Y b → w.heap.size ≤ b ∧ b < w1.heap.size) : RelAt { E with X0 := fun b => E.X0 b ∨ Y b } ρ st a w1 := by
 have hX : ∀ b, b < w.heap.size → ¬ XX E.X0 ρ st.h b → ¬ XX (fun b => E.X0 b ∨ Y b) ρ st.h b := by
  intro b hb hn hx
  rcases hx with (hx | hx) | hx
  ·exact hn (.inl hx)
  ·have := (hY b hx).1; omega
  ·exact hn (.inr hx)
 refine ⟨h.defers.turn (fun b hb => hs.block b (Array.getElem?_eq_some_iff.1 hb).1), h.size, fun k av hk => ⟨(h.slots k av hk).1, (h.slots k av hk).2.mono (fun b _ hb => hs.block b hb) hX ρ (fun _ _ h => h)⟩, ⟨fun id W hW => ?_, h.heap.dist, fun id W L b h1 h2 h3 hx => ?_⟩, h.base, ⟨hs.os.trans h.frm.os, hs.tape.trans h.frm.tape, hs.output.trans h.frm.output, Nat.le_trans h.frm.size hs.size, fun b hb hF => (hs.block b (Nat.lt_of_lt_of_le hb h.frm.size)).trans (h.frm.block b hb hF), h.frm.amb⟩, fun b hb => ?_⟩
 ·obtain ⟨L, h1, h2⟩ := h.heap.win id W hW
  exact ⟨L, h1, h2.mono (fun b hb => hs.block b (XX_lt h ⟨id, W, L, hW, h1, hb⟩)) (fun b _ hb => hs.block b hb) hX (fun _ _ h => h)⟩
 ·rcases hx with hx | hx
  ·exact h.heap.out id W L b h1 h2 h3 hx
  ·have := XX_lt h ⟨id, W, L, h1, h2, h3⟩; have := (hY b hx).1; omega
 ·rcases hb with hb | hb
  ·exact Nat.lt_of_lt_of_le (h.x0 b hb) hs.size
  ·exact (hY b hb).2
theorem RelAt.grow (h : RelAt E ρ st a w) {b : Nat} {w' : World} (g : GrowBut b w w') (hb : E.X0 b) (hw : E.w0.heap.size ≤ b) (hc : ∃ cur t fz, w.heap[b]? = some (Obj.cells cur t fz)) : RelAt E ρ st a w' := by
 have hsame : ∀ k, ¬ XX E.X0 ρ st.h k → k < w.heap.size → w'.heap[k]? = w.heap[k]? := fun k hn hk => g.block k hk (fun e => hn (.inl (e ▸ hb)))
 refine ⟨h.defers.turn (fun k hk => g.block k (Array.getElem?_eq_some_iff.1 hk).1 (fun e => by subst e; obtain ⟨cur, t, fz, hc⟩ := hc; rw [hc] at hk; cases hk)), h.size, fun k av hk => ⟨(h.slots k av hk).1, (h.slots k av hk).2.mono hsame (fun b _ hb => hb) ρ (fun _ _ h => h)⟩, ⟨fun id W hW => ?_, h.heap.dist, h.heap.out⟩, h.base, ⟨g.os.trans h.frm.os, g.tape.trans h.frm.tape, g.output.trans h.frm.output, Nat.le_trans h.frm.size g.size, fun k hk hF => (g.block k (Nat.lt_of_lt_of_le hk h.frm.size) (by omega)).trans (h.frm.block k hk hF), h.frm.amb⟩, fun b hb => Nat.lt_of_lt_of_le (h.x0 b hb) g.size⟩
 obtain ⟨L, h1, h2⟩ := h.heap.win id W hW
 exact ⟨L, h1, h2.mono (fun k hk => g.block k (XX_lt h ⟨id, W, L, hW, h1, hk⟩) (fun e => h.heap.out id W L k hW h1 hk (e ▸ hb))) hsame (fun b _ hb => hb) (fun _ _ h => h)⟩
def roundEnv (E : Env) (a : Act) (W : World) (F : Nat → Prop) (l : Nat) : Env := ⟨W, F, E.X0, E.N, E.B, fun j => if 3000000 ≤ j then sval E a (j - 3000000) else E.gv j, some l, 0, Nat.zero_le _, []⟩
theorem RelAt.enter (h : RelAt E ρ st a w) (hN : E.N ≤ 1000000) (hk0 : ∀ k v, sget st.s k = some v → k < 3000000) (l p : Nat) (hp : p < E.N) (part : List UInt8) :
    RelAt (roundEnv E a w (OwnB ρ st.h) l) ρ ⟨(p, .str part) :: (st.s ++ ghost st.s), st.h⟩ { tmps := a.tmps.setIfInBounds p (.string ⟨part.toArray⟩), defers := [] } w := by
 refine ⟨DfOK.nil _ _, by simpa [roundEnv] using h.size, fun k av hk => ?_, h.heap, fun id W L b h1 h2 h3 => .inr ⟨id, W, L, h1, h2, h3⟩, ⟨rfl, rfl, rfl, Nat.le_refl _, fun _ _ _ => rfl, h.amb⟩, h.x0⟩
 simp only [sget] at hk
 have hsz : p < a.tmps.size := by rw [h.size]; exact hp
 split at hk
 ·rename_i e; subst e
  obtain rfl := Option.some.inj hk
  refine ⟨.inl hp, ?_⟩
  unfold sval
  rw [if_pos (show k < (roundEnv E a w (OwnB ρ st.h) l).N from hp)]
  have : (a.tmps.setIfInBounds k (.string ⟨part.toArray⟩)).getD k undef = .string ⟨part.toArray⟩ := by
   simp [Array.getD_eq_getD_getElem?, Array.getElem?_setIfInBounds, hsz]
  rw [this]
  exact .str _ _
 ·rename_i hne
  rw [sget_append] at hk
  cases hs : sget st.s k with
  | some av0 =>
   rw [hs] at hk
   obtain rfl := Option.some.inj hk
   obtain ⟨h1, h2⟩ := h.slots k av0 hs
   refine ⟨h1, ?_⟩
   unfold sval at h2 ⊢
   by_cases hkN : k < E.N
   ·rw [if_pos hkN] at h2
    rw [if_pos (show k < (roundEnv E a w (OwnB ρ st.h) l).N from hkN)]
    have : (a.tmps.setIfInBounds p (.string ⟨part.toArray⟩)).getD k undef = a.tmps.getD k undef := by
     simp only [Array.getD_eq_getD_getElem?, Array.getElem?_setIfInBounds_ne (Ne.symm hne)]
    rw [this]; exact h2
   ·rw [if_neg hkN] at h2
    rw [if_neg (show ¬ k < (roundEnv E a w (OwnB ρ st.h) l).N from hkN)]
    have := hk0 k _ hs
    simp only [roundEnv]
    rw [if_neg (by omega)]
    exact h2
  | none =>
   rw [hs, Option.none_or] at hk
   obtain ⟨h3, h4⟩ := sget_ghost' _ _ _ hk
   obtain ⟨h1, h2⟩ := h.slots _ av h4
   refine ⟨.inr (by omega), ?_⟩
   have e : sval (roundEnv E a w (OwnB ρ st.h) l) { tmps := a.tmps.setIfInBounds p (.string ⟨part.toArray⟩), defers := [] } k = sval E a (k - 3000000) := by
    show (if k < E.N then _ else (if 3000000 ≤ k then sval E a (k - 3000000) else E.gv k)) = _
    rw [if_neg (by omega), if_pos h3]
   rw [e]
   exact h2
end
section
variable {P : Program} {E : Env} {Q : Exit → St → Prop} {st : St}
def splitK (P : Program) (E : Env) (d f : Nat) (x : AE) (c : UInt8) (bk p q0 : Nat) (body : AC) (Q : Exit → St → Prop) (st : St) : Prop :=
 ∀ (n : Nat) (ops : Array Oper) (o : Oper) (b : Code) (a : Act) (w : World), o.dst = some d → d < E.N → o.guard = none → noDf o.op = true → trOp P o = .call f [x, .c (.str [c])] →
  trCode P E.N E.B b = .block bk (.rng (.t d) [p] (.reg [⟨some q0, none, false, E.B + q0, .mov (.t p)⟩]) body) → Rel E st a w →
   wpListIn (rdF E.rd) n P ops (Exit.then (b.wpIn (rdF E.rd) n P (lift E Q)) (lift E Q)) [o] a w
theorem awp_split {ops : List AOp} {d f bk p q0 : Nat} {x : AE} {c : UInt8} {body : AC} (hN : E.N ≤ 1000000) (h : aops P ops st (splitK P E d f x c bk p q0 body Q)) :
    AWp P E (.seq (.regS (ops ++ [⟨some d, none, false, E.B + d, .call f [x, .c (.str [c])]⟩])) (.block bk (.rng (.t d) [p] (.reg [⟨some q0, none, false, E.B + q0, .mov (.t p)⟩]) body))) st Q := by
 intro n code hc a w hr
 cases code <;> simp only [trCode] at hc <;> first | (cases hc; done) | (exact Bool.noConfusion (show false = true from trReg_isReg hc)) | (split at hc <;> cases hc; done) | skip
 rename_i c1 c2
 injection hc with hc1 hc2
 refine wpIn_seq ?_
 cases c1 <;> simp only [trCode] at hc1 <;> first | (cases hc1; done) | skip
 ·rename_i id ops' draw
  obtain ⟨hl, hd⟩ := trReg_regS hc1
  ··subst hd
    unfold regOps at hl
    split at hl
    ·rename_i hf
     have hf' : ∀ o ∈ ops'.toList, fits E.N o = true := fun o ho => List.all_eq_true.1 hf o ho
     simp only [Bool.false_eq_true, if_false, Option.some.injEq] at hl
     obtain ⟨pre, suf, e1, e2, e3⟩ := List.map_eq_append_iff.1 hl
     obtain ⟨o, suf', e4, e5, e6⟩ := List.map_eq_cons_iff.1 e3
     obtain rfl := List.map_eq_nil_iff.1 e6
     rw [e4] at e1
     obtain ⟨ρ, hρ⟩ := hr
     have hom : o ∈ ops'.toList := by rw [e1]; simp
     have hfo := hf' o hom
     simp only [trO, AOp.mk.injEq, true_and] at e5
     obtain ⟨g1, g2, g3, g4⟩ := e5
     refine wpIn_region_list ?_
     rw [e1]
     refine aops_sound hN ops' (K := splitK P E d f x c bk p q0 body Q) [o] (fun st' a' w' hk hr' => ?_) pre (fun o ho => hf' o (by rw [e1]; exact List.mem_append_left _ ho)) hρ (by rw [e2]; exact h)
     exact hk n ops' o c2 a' w' g1 (fits_lt hfo d g1) (by simpa using g2) (fits_nd hfo) g4 hc2 hr'
    ·cases hl
 ·split at hc1 <;> cases hc1
end
end Go.Proofs.YtjoefngnjoofeaaDoor.Eng
