/- Commit: annotated tags in plain Lean, and what comes in. -/
import Derived.Test.YtjpinndnicmokaaDoorCmFormats
set_option linter.all false
namespace Go.Proofs.YtjpinndnicmokaaDoor.Cm
open Eng Ob
set_option maxRecDepth 10000
structure Tg where
  obj : Bs
  kind : Int
  name : Bs
  tagger : Sg
  msg : Bs
  deriving DecidableEq
def SgB (s : Sg) : Prop := s.who.length ≤ 140737488351232 ∧ (-9223372036854775808 ≤ s.time ∧ s.time ≤ 9223372036854775807) ∧ (-9223372036854775808 ≤ s.zone ∧ s.zone ≤ 9223372036854775807)
def cmL (c : Cmt) : List AV := [.str c.tree, .ro 1 (c.parents.map .str), .str c.author.who, .int .i64 c.author.time, .int .i64 c.author.zone, .str c.committer.who, .int .i64 c.committer.time, .int .i64 c.committer.zone, .str c.msg]
theorem cmL_A (c : Cmt) : AV.agg (cmL c) = cmA c := rfl
def CmB (c : Cmt) : Prop := CmSz c ∧ SgB c.author ∧ SgB c.committer
def tgL (t : Tg) : List AV := [.str t.obj, .int .i64 t.kind, .str t.name, .str t.tagger.who, .int .i64 t.tagger.time, .int .i64 t.tagger.zone, .str t.msg]
def tgA (t : Tg) : AV := .agg (tgL t)
def TgB (t : Tg) : Prop := t.obj.length ≤ 140737488351232 ∧ (-9223372036854775808 ≤ t.kind ∧ t.kind ≤ 9223372036854775807) ∧ t.name.length ≤ 140737488351232 ∧ SgB t.tagger ∧ t.msg.length ≤ 140737488351232
def checkT (t : Tg) : Int := if idP t.obj = true ∧ nameP t.kind ≠ [] ∧ lineP t.name = true ∧ signedP t.tagger = true then 0 else 4
def wObject : Bs := [111, 98, 106, 101, 99, 116]
def wType : Bs := [116, 121, 112, 101]
def wTag : Bs := [116, 97, 103]
def wTagger : Bs := [116, 97, 103, 103, 101, 114]
def textT (t : Tg) : Bs := wObject ++ 32 :: (t.obj ++ 10 :: (wType ++ 32 :: (nameP t.kind ++ 10 :: (wTag ++ 32 :: (t.name ++ 10 :: (wTagger ++ 32 :: (signT t.tagger ++ 10 :: (10 :: t.msg))))))))
def parseT1 (o s1 : Bs) : Option Tg :=
  match lineL wType s1 with
  | none => none
  | some (k, s2) => match lineL wTag s2 with
    | none => none
    | some (n, s3) => match lineL wTagger s3 with
      | none => none
      | some (g, s4) => match signL g with
        | none => none
        | some sg => match msgL s4 with
          | none => none
          | some m => some ⟨o, kindP k, n, sg, m⟩
def parseTL (s : Bs) : Option Tg := match lineL wObject s with
  | none => none
  | some (o, s1) => parseT1 o s1
theorem nameP_no (k : Int) : 10 ∉ nameP k := by
  unfold nameP
  split
  · decide
  · split
    · decide
    · split
      · decide
      · split <;> decide
theorem kind_name {k : Int} (h : nameP k ≠ []) : kindP (nameP k) = k := by
  unfold nameP at h ⊢
  split
  · rename_i h1; subst h1; decide
  · split
    · rename_i h1; subst h1; decide
    · split
      · rename_i h1; subst h1; decide
      · split
        · rename_i h1; subst h1; decide
        · rename_i h1 h2 h3 h4
          rw [if_neg h1, if_neg h2, if_neg h3, if_neg h4] at h
          exact absurd rfl h
theorem name_kind {x : Bs} (h : nameP (kindP x) ≠ []) : nameP (kindP x) = x := by
  unfold kindP at h ⊢
  split
  · assumption
  · split
    · assumption
    · split
      · assumption
      · split
        · assumption
        · rename_i h1 h2 h3 h4
          rw [if_neg h1, if_neg h2, if_neg h3, if_neg h4] at h
          exact absurd rfl h
theorem checkT_ok {t : Tg} (h : checkT t = 0) : idP t.obj = true ∧ nameP t.kind ≠ [] ∧ lineP t.name = true ∧ signedP t.tagger = true := by
  unfold checkT at h
  split at h
  · rename_i h1; exact h1
  · cases h
theorem parseTL_text {t : Tg} (h : checkT t = 0) : parseTL (textT t) = some t := by
  obtain ⟨h1, h2, h3, h4⟩ := checkT_ok h
  unfold textT parseTL
  rw [lineL_mk _ (by decide) (idP_no h1 10 (by decide))]
  simp only
  unfold parseT1
  rw [lineL_mk _ (by decide) (nameP_no _)]
  simp only
  rw [lineL_mk _ (by decide) (lineP_no h3).1]
  simp only
  rw [lineL_mk _ (by decide) (signT_no _ (signedP_sg h4) 10 (by decide) (lineP_no (signedP_ok h4).1).1)]
  simp only
  rw [signL_signT _ (signedP_sg h4)]
  simp only [msgL, if_true, kind_name h2]
theorem parseTL_some {s : Bs} {t : Tg} (h : parseTL s = some t) (hc : checkT t = 0) : textT t = s := by
  unfold parseTL at h
  split at h
  · cases h
  rename_i o s1 h1
  unfold parseT1 at h
  split at h
  · cases h
  rename_i k s2 h2
  split at h
  · cases h
  rename_i n s3 h3
  split at h
  · cases h
  rename_i g s4 h4
  split at h
  · cases h
  rename_i sg h5
  split at h
  · cases h
  rename_i m h6
  obtain rfl := Option.some.inj h
  obtain ⟨e1, _⟩ := lineL_some h1
  obtain ⟨e2, _⟩ := lineL_some h2
  obtain ⟨e3, _⟩ := lineL_some h3
  obtain ⟨e4, _⟩ := lineL_some h4
  obtain ⟨e5, _⟩ := signL_some h5
  have e6 := msgL_some h6
  have hk : nameP (kindP k) = k := name_kind (checkT_ok hc).2.1
  unfold textT
  simp only
  rw [hk, e5, e1, e2, e3, e4, e6]
/-- a text that the parser of tags can read on a machine -/
structure TagB (s : Bs) : Prop where
  len : s.length ≤ 4000000000000000000
  sgn : ∀ o s1 k s2 n s3 g s4, lineL wObject s = some (o, s1) → lineL wType s1 = some (k, s2) → lineL wTag s2 = some (n, s3) → lineL wTagger s3 = some (g, s4) → g.length ≤ 140737488351232
theorem tagB_short {s : Bs} (hs : s.length ≤ 140737488351232) : TagB s where
  len := by omega
  sgn := fun o s1 k s2 n s3 g s4 h1 h2 h3 h4 => by
    have := lineL_len h1; have := lineL_len h2; have := lineL_len h3; have := lineL_len h4
    omega
theorem tagB_none {s : Bs} (hs : s.length ≤ 4000000000000000000) (h : lineL wObject s = none) : TagB s where
  len := hs
  sgn := fun o s1 k s2 n s3 g s4 h1 _ _ _ => by rw [h] at h1; cases h1
theorem parB_none {s : Bs} (hs : s.length ≤ 4000000000000000000) (h : lineL wTree s = none) : ParB s where
  len := hs
  par := fun t s1 s2 ps h1 _ _ => by rw [h] at h1; cases h1
  sgn := fun t s1 s2 ps al s3 h1 _ _ => by rw [h] at h1; cases h1
/-- no part of it is too long for a machine -/
def TgSz (t : Tg) : Prop := t.obj.length ≤ 140737488351232 ∧ (-9223372036854775808 ≤ t.kind ∧ t.kind ≤ 9223372036854775807) ∧ t.name.length ≤ 140737488351232 ∧ t.tagger.who.length ≤ 140737488351232 ∧ t.msg.length ≤ 140737488351232
theorem tgB_sz {t : Tg} (h : TgB t) : TgSz t := ⟨h.1, h.2.1, h.2.2.1, h.2.2.2.1.1, h.2.2.2.2⟩
end Go.Proofs.YtjpinndnicmokaaDoor.Cm
