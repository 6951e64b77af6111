/- Commit: the answers that the document fixes. -/
import Derived.Test.YtjpinndnicmokaaDoorCmDParse
import Derived.Test.YtjpinndnicmokaaDoorCmCodeL
set_option linter.all false
namespace Go.Proofs.YtjpinndnicmokaaDoor.Cm
open Eng Ob
set_option maxRecDepth 10000
def id0 : Bs := [52, 98, 56, 50, 53, 100, 99, 54, 52, 50, 99, 98, 54, 101, 98, 57, 97, 48, 54, 48, 101, 53, 52, 98, 102, 56, 100, 54, 57, 50, 56, 56, 102, 98, 101, 101, 52, 57, 48, 52]
def cA : Cmt := ⟨id0, [], ⟨[97, 110, 110, 32, 60, 97, 62], 0, 90⟩, ⟨[97, 110, 110], 7, 0⟩, [104, 105]⟩
def tA (b : UInt8) : Bs := wTree ++ 32 :: (id0 ++ [10, 97, 117, 116, 104, 111, 114, 32, 97, 110, 110, 32, 60, 97, 62, 32, 48, 32, 43, 48, 49, 51, 48, 10, 99, 111, 109, 109, 105, 116, 116, 101, 114, 32, 97, 110, 110, 32, 55, 32, b, 48, 48, 48, 48, 10, 10, 104, 105])
theorem itoa0 : Lib.itoa 0 = [48] := by unfold Lib.itoa; rw [if_neg (by decide)]; exact dec_small (by decide)
theorem itoa7 : Lib.itoa 7 = [55] := by unfold Lib.itoa; rw [if_neg (by decide)]; exact dec_small (by decide)
theorem cA_text : textP cA = tA 43 := by
  have z1 : zoneT 90 = [43, 48, 49, 51, 48] := by decide
  have z2 : zoneT 0 = [43, 48, 48, 48, 48] := by decide
  unfold textP tA cA signT
  simp only [itoa0, itoa7, z1, z2, parT]
  simp [wAuthor, wCommitter]
theorem cA_form : CmOK cA := by
  refine ⟨by decide, by simp [cA], ⟨⟨⟨by decide, by decide⟩, by decide, by decide⟩, by decide⟩, ⟨⟨by decide, by decide⟩, by decide, by decide⟩, by decide⟩
theorem cA_check : checkP cA = 0 := by decide
theorem cA_sz : CmSz cA := by
  refine ⟨by decide, ⟨by decide, by simp [cA]⟩, by decide, by decide, by decide⟩
theorem tA_len (b : UInt8) : (tA b).length ≤ 1000000000000 := by unfold tA; simp [wTree, id0]
theorem tA_no : parseL (tA 45) = none := by
  unfold tA parseL
  rw [show ∀ r, wTree ++ 32 :: (id0 ++ 10 :: r) = wTree ++ 32 :: (id0 ++ 10 :: r) from fun _ => rfl, lineL_mk _ (by decide) (by decide)]
  simp only
  rw [parL_no (by rintro ⟨t, ht⟩; revert ht; simp [pParent])]
  simp only
  have e1 : ([97, 117, 116, 104, 111, 114, 32, 97, 110, 110, 32, 60, 97, 62, 32, 48, 32, 43, 48, 49, 51, 48, 10, 99, 111, 109, 109, 105, 116, 116, 101, 114, 32, 97, 110, 110, 32, 55, 32, 45, 48, 48, 48, 48, 10, 10, 104, 105] : Bs) =
    wAuthor ++ 32 :: ([97, 110, 110, 32, 60, 97, 62, 32, 48, 32, 43, 48, 49, 51, 48] ++ 10 :: (wCommitter ++ 32 :: ([97, 110, 110, 32, 55, 32, 45, 48, 48, 48, 48] ++ 10 :: [10, 104, 105]))) := rfl
  rw [e1, lineL_mk _ (by decide) (by decide)]
  simp only
  rw [lineL_mk _ (by decide) (by decide)]
  simp only
  have hs : signL [97, 110, 110, 32, 55, 32, 45, 48, 48, 48, 48] = none := by
    unfold signL
    rw [show lcut 32 [97, 110, 110, 32, 55, 32, 45, 48, 48, 48, 48] = some ([97, 110, 110, 32, 55], [45, 48, 48, 48, 48]) by decide]
    simp only
    rw [show lcut 32 [97, 110, 110, 32, 55] = some ([97, 110, 110], [55]) by decide]
    simp only
    rw [show zoneO [45, 48, 48, 48, 48] = none by decide]
    cases numI [55] <;> rfl
  rw [hs]
  cases signL [97, 110, 110, 32, 60, 97, 62, 32, 48, 32, 43, 48, 49, 51, 48] <;> rfl
theorem awake_ok : SpecR Tryd.prog 12 [] (.bool true) := by
  refine Cod.awake_spec (fun E R hN hR => ?_)
  have h1 := cparse_ok (tA 45) (parB_short (tA_len _)) (fun c hc => parseL_sz (tA_len _) hc)
  have h2 := cparse_ok (tA 43) (parB_short (tA_len _)) (fun c hc => parseL_sz (tA_len _) hc)
  have hr : readC (tA 45) = 3 := by unfold readC; rw [tA_no]
  have hp2 : parseL (tA 43) = some cA := by rw [← cA_text]; exact parseL_textP cA cA_form
  unfold readA at h1 h2
  rw [tA_no, hr] at h1
  rw [hp2] at h2
  unfold tA wTree id0 at h1 h2
  simp only [List.cons_append, List.nil_append] at h1 h2
  simp (disch := first | omega | (simp only [Lx]; omega)) only [go_sem, simprocAttr]
  refine call_ro' h1 rfl ?_
  rintro h' v as' ⟨rfl, hv⟩
  rcases hv with ⟨c, hc, _⟩ | ⟨_, rfl⟩
  · cases hc
  refine ⟨rfl, rfl, ?_⟩
  simp (disch := first | omega | (simp only [Lx]; omega)) only [go_sem, simprocAttr, parts, c0]
  refine call_ro' h2 rfl ?_
  rintro h' v as' ⟨rfl, hv⟩
  rcases hv with ⟨c, hc, _, rfl⟩ | ⟨hne, _⟩
  · obtain rfl := Option.some.inj hc
    refine ⟨rfl, rfl, ?_⟩
    simp (disch := first | omega | (simp only [Lx]; omega)) only [go_sem, simprocAttr, cmA, cA]
    (repeat (first | (with_reducible refine gskip_of ?_) | (with_reducible refine gcskip_of ?_) | (with_reducible refine gopen_of ?_)) <;> simp (disch := first | omega | (simp only [Lx]; omega)) only [go_sem, simprocAttr, cmA, cA])
    exact hR.ro ⟨rfl, rfl⟩
  · exfalso
    apply hne
    have : readC (tA 43) = 0 := by unfold readC; rw [hp2]; exact cA_check
    exact this
end Go.Proofs.YtjpinndnicmokaaDoor.Cm
