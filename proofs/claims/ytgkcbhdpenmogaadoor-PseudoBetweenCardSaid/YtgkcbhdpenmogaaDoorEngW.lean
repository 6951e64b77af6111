/- The engine, part W: direct style, sound. -/
import Derived.Test.YtgkcbhdpenmogaaDoorEngV
set_option linter.all false
namespace Go.Proofs.YtgkcbhdpenmogaaDoor.Eng
section
variable {γ : Bool} {st : St} {K : AV → Prop}
theorem pick_strip {x y : AV} {β : Bool} (h : (pickR γ (.bool β) x y).To K) : pickM γ β x y K := by
  have hx : ∀ z : AV, (unGd z).2 = stripV z := fun z => by cases z <;> rfl
  have hc : ∀ z : AV, stripC true z → (unGd z).1 = true := fun z => by cases z <;> simp [stripC, unGd]
  simp only [pickR, pick2] at h
  unfold pickM
  rw [hx, hx]
  split at h
  · rename_i e2 e3
    obtain ⟨⟨h1, h2⟩, h3⟩ := h
    rw [e2, e3]
    exact ⟨fun g g' => hc _ (h1 g g'), fun g g' => hc _ (h2 g g'), h3⟩
  · rename_i p e2 hne
    obtain ⟨h1, h3⟩ := h
    rw [e2]
    generalize stripV y = b at hne
    cases b <;> first | exact (hne _ rfl).elim | exact ⟨fun g => ⟨(h1 g).1, hc _ (h1 g).2⟩, h3⟩
  · rename_i q e2 hne
    obtain ⟨h1, h3⟩ := h
    rw [e2]
    generalize stripV x = b at hne
    cases b <;> first | exact (hne _ rfl).elim | exact ⟨fun g => ⟨(h1 g).1, hc _ (h1 g).2⟩, h3⟩
  · exact h.elim
theorem ldcR_To {ag : Bool} {n : Nat} {cs : List AV} (h : (ldcR γ ag n cs).To K) : ldc γ ag n cs K := by
  cases ag <;> simpa [ldcR, Res.To, ldc] using h
theorem idxR_To {sz : Nat} {x i : AV} (h : (idxR γ st sz x i).To K) : avalIdx γ st sz x i K := by
  unfold idxR at h
  unfold avalIdx
  split at h
  · obtain ⟨⟨h1, h2, h3⟩, h4⟩ := h; exact ⟨h1, h2, h3, h4⟩
  · unfold idxW at h
    split at h
    · rename_i e
      obtain ⟨⟨h1, h2, h3⟩, h4⟩ := h
      refine ⟨h1, h2, ?_⟩
      simp only [e]; exact ⟨h3, h4⟩
    · exact h.elim
  · exact h.elim
theorem ldR_To {ag : Bool} {n : Nat} {x : AV} (h : (ldR γ st ag n x).To K) : avalLd γ st ag n x K := by
  unfold ldR at h
  unfold avalLd
  split at h
  · exact ldcR_To h
  · unfold ldA at h
    split at h
    · rename_i e; simp only [e]; exact ldcR_To h
    · exact h.elim
  · unfold ldV at h
    split at h
    · rename_i e; simp only [e]; exact ldcR_To h
    · exact h.elim
  · exact h.elim
theorem slcAR_To {sz : Nat} {lo hi : Option AE} {x : AV} (h : (slcAR γ st sz lo hi x).To K) : avalSlc γ st sz x lo hi K := by
  unfold slcAR at h
  unfold avalSlc
  split at h
  · refine bndR_To ?_
    unfold slcNilR at h
    split at h
    · rename_i e; rw [e]; exact h
    · exact h.elim
  · unfold slcRoR at h
    split at h
    · rename_i e; exact ⟨h.1.1, bndR_To (by rw [e]; exact ⟨h.1.2, h.2⟩)⟩
    · exact h.elim
  · unfold slcSlR at h
    split at h
    · rename_i e1 e2; exact bndR_To (by rw [e1]; refine ⟨h.1.1, ?_⟩; simp only [e2]; exact ⟨h.1.2, h.2⟩)
    · exact h.elim
  · exact h.elim
theorem fldAR_To {ag : Bool} {off n : Nat} {x : AV} (h : (fldAR γ st ag off n x).To K) : avalFldA γ st ag off n x K := by
  unfold fldAR at h
  unfold avalFldA
  split at h
  · cases ag with
    | true => obtain ⟨⟨h1, h2⟩, h3⟩ := h; exact ⟨h1, h2, (fun e => by cases e), h3⟩
    | false => obtain ⟨⟨h1, h2, h3⟩, h4⟩ := h; exact ⟨h1, h2, fun _ => h3, h4⟩
  · unfold fldW at h
    split at h
    · rename_i e; simp only [e]; exact h
    · exact h.elim
  · exact h.2
  · exact h.elim
theorem unR_To {op : UnOp} {x : AV} (h : (unR op x).To K) : avalUn op x K := by
  unfold unR at h
  unfold avalUn
  split at h <;> first | exact h.elim | exact h.2
theorem lenR_To {s : Bool} {x : AV} (h : (lenR s x).To K) : avalLen s x K := by
  unfold lenR at h
  unfold avalLen
  split at h <;> first | exact h.elim | exact h.2
theorem mmR_To {s : Bool} {x y : AV} (h : (mmR s x y).To K) : avalMM s x y K := by
  unfold mmR at h
  unfold avalMM
  split at h <;> first | exact h.elim | exact h.2
theorem bldR_To : ∀ (ps : List (Nat × Nat × AE)) (cs : List AV), (bldR γ st ps cs).To K → bldC γ st ps cs K
  | [], cs, h => h.2
  | (o, n, x) :: r, cs, h => by
    unfold bldR at h
    simp only [To_and] at h
    unfold bldC
    simp only [evg, strip_To]
    exact ⟨h.1, h.2.1, bldR_To r _ h.2.2⟩
theorem snilR_To {neg : Bool} {x : AV} (h : (snilR γ st neg x).To K) : snilC γ st neg x K := by
  unfold snilR at h
  unfold snilC
  split at h
  · exact h.2
  · unfold snilW at h
    split at h
    · rename_i e; refine ⟨h.1, ?_⟩; simp only [e]; exact h.2
    · exact h.elim
  · exact h
  · exact h.elim
theorem avalR_To {o : AO} (h : (avalR γ st o).To K) : aval γ st o K := by
  cases o <;> simp only [avalR, To_and] at h <;> simp only [aval, evg, strip_To] <;> first | exact h.elim | skip
  · exact ⟨h.1, h.2.2⟩
  · refine ⟨h.1, ?_⟩
    generalize stripV _ = c at h ⊢
    have h2 := h.2
    cases c with
    | bool β => exact pick_strip h2
    | _ => exact h2.elim
  · exact ⟨h.1, h.2.1, binR_To h.2.2⟩
  · refine ⟨h.1, h.2.1, ?_⟩
    have h2 := h.2.2
    unfold beqR at h2
    split at h2
    · rename_i e1 e2; rw [e1, e2]; exact h2.2
    · exact h2.elim
  · refine ⟨h.1, h.2.1, ?_⟩
    have h2 := h.2.2
    unfold aeqR at h2
    split at h2
    · rename_i e1 e2; rw [e1, e2]; exact h2
    · exact h2.elim
  · exact ⟨h.1, unR_To h.2⟩
  · refine ⟨h.1, ?_⟩
    have h2 := h.2
    unfold cviR at h2
    split at h2
    · rename_i e; rw [e]; exact h2.2
    · exact h2.elim
  · refine ⟨h.1, ?_⟩
    have h2 := h.2
    unfold cifR at h2
    split at h2
    · rename_i e; rw [e]; exact h2.2
    · exact h2.elim
  · refine ⟨h.1, ?_⟩
    have h2 := h.2
    unfold cfiR at h2
    split at h2
    · rename_i e; rw [e]; exact h2
    · exact h2.elim
  · refine ⟨h.1, ?_⟩
    have h2 := h.2
    unfold cstR at h2
    split at h2
    · rename_i e; rw [e]; exact h2.2
    · exact h2.elim
  · refine ⟨h.1, ?_⟩
    have h2 := h.2
    unfold btsR at h2
    unfold avalBts
    split at h2
    · rename_i e; rw [e]; exact h2
    · exact h2.elim
  · refine ⟨h.1, h.2.1, ?_⟩
    have h2 := h.2.2
    unfold cplxR at h2
    split at h2
    · rename_i e1 e2; rw [e1, e2]; exact h2
    · exact h2.elim
  · refine ⟨h.1, ?_⟩
    have h2 := h.2
    unfold reR at h2
    split at h2
    · rename_i e; rw [e]; exact h2.2
    · exact h2.elim
  · refine ⟨h.1, ?_⟩
    have h2 := h.2
    unfold imR at h2
    split at h2
    · rename_i e; rw [e]; exact h2.2
    · exact h2.elim
  · exact ⟨h.1, lenR_To h.2⟩
  · exact ⟨h.1, h.2.1, mmR_To h.2.2⟩
  · refine ⟨h.1, ?_⟩
    have h2 := h.2
    unfold extR at h2
    split at h2
    · rename_i e; rw [e]; exact h2
    · exact h2.elim
  · refine ⟨h.1, ?_⟩
    have h2 := h.2
    unfold nilcR at h2
    split at h2 <;> first | (rename_i e; rw [e]; exact h2.2) | exact h2.elim
  · exact ⟨h.1, h.2.1, idxR_To h.2.2⟩
  · refine ⟨h.1, h.2.1, ?_⟩
    have h2 := h.2.2
    unfold sidxR at h2
    split at h2
    · rename_i e1 e2; rw [e1, e2]; exact h2
    · exact h2.elim
  · exact ⟨h.1, ldR_To h.2⟩
  · refine ⟨h.1, ?_⟩
    have h2 := h.2
    unfold slcSR at h2
    split at h2
    · rename_i e
      rw [e]
      unfold slcStrR at h2
      split at h2
      · rename_i e2; exact bndR_To (by rw [e2]; exact h2)
      · exact h2.elim
    · exact h2.elim
  · exact ⟨h.1, slcAR_To h.2⟩
  · exact bldR_To _ _ h
  · exact ⟨h.1, fldAR_To h.2⟩
  · refine ⟨h.1, ?_⟩
    have h2 := h.2
    unfold fldR at h2
    split at h2
    · rename_i e; rw [e]; exact ⟨h2.1.1, h2.1.2, h2.2⟩
    · exact h2.elim
  · refine ⟨h.1, h.2.1, ?_⟩
    have h2 := h.2.2
    unfold idxPR at h2
    split at h2
    · rename_i e1 e2; rw [e1, e2]; exact h2
    · exact h2.elim
  · refine ⟨h.1, h.2.1, ?_⟩
    have h2 := h.2.2
    unfold idxVR at h2
    split at h2
    · rename_i e1 e2; rw [e1, e2]; exact h2
    · exact h2.elim
  · exact ⟨h.1, snilR_To h.2⟩
  · refine ⟨h.1, ?_⟩
    have h2 := h.2
    unfold inilR at h2
    unfold inilC
    split at h2
    · rename_i e; rw [e]; exact h2
    · exact h2.elim
  · refine ⟨h.1, ?_⟩
    have h2 := h.2
    unfold mkiR at h2
    split at h2
    · rename_i e; rw [e]; exact h2.2
    · exact h2.elim
  · refine ⟨h.1, ?_⟩
    have h2 := h.2
    unfold cvsR at h2
    split at h2
    · rename_i e; rw [e]; exact h2.2
    · exact h2.elim
  · exact h
end
end Go.Proofs.YtgkcbhdpenmogaaDoor.Eng
