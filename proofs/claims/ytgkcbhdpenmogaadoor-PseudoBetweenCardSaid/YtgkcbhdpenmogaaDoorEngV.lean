/- The engine, part V: the same in direct style, to be reckoned by simp: operations give results; what follows stands in wraps that simp does not enter. -/
import Derived.Test.YtgkcbhdpenmogaaDoorEngO
set_option linter.all false
namespace Go.Proofs.YtgkcbhdpenmogaaDoor.Eng
inductive Res where
  | ok (c : Prop) (v : AV)
  | fail
def Res.To : Res → (AV → Prop) → Prop
  | .ok c v, K => c ∧ K v
  | .fail, _ => False
def andR (c : Prop) (r : Res) : Res :=
  match r with
  | .ok d v => .ok (c ∧ d) v
  | .fail => .fail
def stripV (v : AV) : AV :=
  match v with
  | .gd _ x => x
  | v => v
def stripC (γ : Bool) (v : AV) : Prop :=
  match v with
  | .gd b _ => γ = true → b = true
  | _ => True
section
variable {γ : Bool} {st : St} {K : AV → Prop}
theorem To_and {c : Prop} {r : Res} : (andR c r).To K ↔ c ∧ r.To K := by cases r <;> simp [andR, Res.To, and_assoc]
theorem strip_To {v : AV} : strip γ v K ↔ stripC γ v ∧ K (stripV v) := by cases v <;> simp [strip, stripC, stripV]
def intR (γ : Bool) (op : BinOp) (k k' : IntKind) (x y : Int) : Res :=
  match op with
  | .shl => .ok (γ = true → 0 ≤ y) (.int k (k.wrap (x * 2 ^ (min y.toNat k.bits))))
  | .shr => .ok (γ = true → 0 ≤ y) (.int k (x.fdiv (2 ^ (min y.toNat k.bits))))
  | .add => .ok (k = k') (.int k (k.wrap (x + y)))
  | .sub => .ok (k = k') (.int k (k.wrap (x - y)))
  | .mul => .ok (k = k') (.int k (k.wrap (x * y)))
  | .quo => .ok (k = k' ∧ (γ = true → y ≠ 0)) (.int k (k.wrap (x.tdiv y)))
  | .rem => .ok (k = k' ∧ (γ = true → y ≠ 0)) (.int k (x.tmod y))
  | .and => .ok (k = k') (.int k (bits .and k x y))
  | .or => .ok (k = k') (.int k (bits .or k x y))
  | .xor => .ok (k = k') (.int k (bits .xor k x y))
  | .andNot => .ok (k = k') (.int k (bits .andNot k x y))
  | .eql => .ok (k = k') (.bool (decide (x = y)))
  | .neq => .ok (k = k') (.bool (!decide (x = y)))
  | .lss => .ok (k = k') (.bool (decide (x < y)))
  | .leq => .ok (k = k') (.bool (decide (x ≤ y)))
  | .gtr => .ok (k = k') (.bool (decide (y < x)))
  | .geq => .ok (k = k') (.bool (decide (y ≤ x)))
theorem intR_To {op : BinOp} {k k' : IntKind} {x y : Int} (h : (intR γ op k k' x y).To K) : intBin γ op k k' x y K := by
  cases op <;> simpa [intR, Res.To, intBin, and_assoc] using h
def strR (γ : Bool) (op : BinOp) (x y : List UInt8) : Res :=
  match op with
  | .add => .ok (γ = true → x.length + y.length ≤ 9223372036854775807) (.str (x ++ y))
  | .eql => .ok True (.bool (x == y))
  | .neq => .ok True (.bool (!(x == y)))
  | .lss => .ok True (.bool (Op.bytesLess x y))
  | .leq => .ok True (.bool (Op.bytesLess x y || x == y))
  | .gtr => .ok True (.bool (!(Op.bytesLess x y || x == y)))
  | .geq => .ok True (.bool (!Op.bytesLess x y))
  | _ => .fail
theorem strR_To {op : BinOp} {x y : List UInt8} (h : (strR γ op x y).To K) : strBin γ op x y K := by
  cases op <;> first | exact h.2 | exact h | exact h.elim
def flR (op : BinOp) (k k' : FloatKind) (x y : Nat) : Res :=
  match op with
  | .add => .ok (k = k' ∧ (k.format.add x y).isSome = true) (.fl k ((k.format.add x y).getD 0))
  | .sub => .ok (k = k' ∧ (k.format.sub x y).isSome = true) (.fl k ((k.format.sub x y).getD 0))
  | .mul => .ok (k = k' ∧ (k.format.mul x y).isSome = true) (.fl k ((k.format.mul x y).getD 0))
  | .eql => .ok (k = k') (.bool (k.format.order x y == some .eq))
  | .neq => .ok (k = k') (.bool (k.format.order x y != some .eq))
  | .lss => .ok (k = k') (.bool (k.format.order x y == some .lt))
  | .gtr => .ok (k = k') (.bool (k.format.order x y == some .gt))
  | .leq => .ok (k = k') (.bool (k.format.order x y == some .lt || k.format.order x y == some .eq))
  | .geq => .ok (k = k') (.bool (k.format.order x y == some .gt || k.format.order x y == some .eq))
  | _ => .fail
theorem getD_of {o : Option Nat} (h : o.isSome = true) : o = some (o.getD 0) := by cases o <;> simp_all
theorem flR_To {op : BinOp} {k k' : FloatKind} {x y : Nat} (h : (flR op k k' x y).To K) : flBin op k k' x y K := by
  cases op <;> first | exact h.elim | exact h | exact ⟨h.1.1, _, getD_of h.1.2, h.2⟩
def cxR (op : BinOp) (k k' : FloatKind) (a b c d : Nat) : Res :=
  match op with
  | .add => .ok (k = k' ∧ (k.format.add a c).isSome = true ∧ (k.format.add b d).isSome = true) (.cx k ((k.format.add a c).getD 0) ((k.format.add b d).getD 0))
  | .sub => .ok (k = k' ∧ (k.format.sub a c).isSome = true ∧ (k.format.sub b d).isSome = true) (.cx k ((k.format.sub a c).getD 0) ((k.format.sub b d).getD 0))
  | .eql => .ok (k = k') (.bool (k.format.order a c == some .eq && k.format.order b d == some .eq))
  | .neq => .ok (k = k') (.bool (!(k.format.order a c == some .eq && k.format.order b d == some .eq)))
  | _ => .fail
theorem cxR_To {op : BinOp} {k k' : FloatKind} {a b c d : Nat} (h : (cxR op k k' a b c d).To K) : cxBin op k k' a b c d K := by
  cases op <;> first | exact h.elim | exact h | exact ⟨h.1.1, _, _, getD_of h.1.2.1, getD_of h.1.2.2, h.2⟩
def binR (γ : Bool) (op : BinOp) (x y : AV) : Res :=
  match x, y with
  | .int k a, .int k' b => intR γ op k k' a b
  | .str a, .str b => strR γ op a b
  | .fl k a, .fl k' b => flR op k k' a b
  | .cx k a b, .cx k' c d => cxR op k k' a b c d
  | _, _ => .fail
theorem binR_To {op : BinOp} {x y : AV} (h : (binR γ op x y).To K) : abin γ op x y K := by
  unfold binR at h
  split at h
  · exact intR_To h
  · exact strR_To h
  · exact flR_To h
  · exact cxR_To h
  · exact h.elim
def pick2 (γ β : Bool) (x y a b : AV) : Res :=
  match a, b with
  | .bool p, .bool q => .ok ((γ = true → β = true → stripC true x) ∧ (γ = true → β = false → stripC true y)) (.bool (if β then p else q))
  | .bool p, _ => .ok (γ = true → β = true ∧ stripC true x) (.bool p)
  | _, .bool q => .ok (γ = true → β = false ∧ stripC true y) (.bool q)
  | _, _ => .fail
def pickR (γ : Bool) (c x y : AV) : Res :=
  match c with
  | .bool β => pick2 γ β x y (stripV x) (stripV y)
  | _ => .fail
def beqR (neg : Bool) (a b : AV) : Res :=
  match a, b with
  | .bool a, .bool b => .ok True (.bool (if neg then !(a == b) else a == b))
  | _, _ => .fail
def aeqR (γ neg : Bool) (ks : List Nat) (a b : AV) : Res :=
  match a, b with
  | .agg cs, .agg ds => .ok (γ = true → eqOKs ks cs ds = true) (.bool (if neg then !(eqCs cs ds) else eqCs cs ds))
  | _, _ => .fail
def unR (op : UnOp) (x : AV) : Res :=
  match op, x with
  | .not, .bool b => .ok True (.bool (!b))
  | .neg, .int k n => .ok True (.int k (k.wrap (0 - n)))
  | .xor, .int k n => .ok True (.int k (bits .xor k (if k.signed then -1 else k.max) n))
  | _, _ => .fail
def cviR (k : IntKind) (a : AV) : Res :=
  match a with
  | .int _ n => .ok True (.int k (k.wrap n))
  | _ => .fail
def cifR (k : FloatKind) (a : AV) : Res :=
  match a with
  | .int _ n => .ok True (.fl k (k.nearest n))
  | _ => .fail
def cfiR (γ : Bool) (k : IntKind) (a : AV) : Res :=
  match a with
  | .fl s b => .ok (γ = true → (floatToIntVal s b k).isSome = true) (.int k ((floatToIntVal s b k).getD 0))
  | _ => .fail
def cstR (a : AV) : Res :=
  match a with
  | .str s => .ok True (.str s)
  | _ => .fail
def btsR (γ : Bool) (o : Option (List AV)) : Res :=
  match o with
  | some es => .ok (γ = true → allB es = true) (.str (bytesOf es))
  | none => .fail
def cplxR (a b : AV) : Res :=
  match a, b with
  | .fl k a, .fl k' b => .ok (k = k') (.cx k a b)
  | _, _ => .fail
def reR (a : AV) : Res :=
  match a with
  | .cx k a _ => .ok True (.fl k a)
  | _ => .fail
def imR (a : AV) : Res :=
  match a with
  | .cx k _ b => .ok True (.fl k b)
  | _ => .fail
def lenR (str : Bool) (x : AV) : Res :=
  match str, x with
  | true, .str l => .ok True (.int .i64 l.length)
  | false, .ro _ es => .ok True (.int .i64 es.length)
  | false, .sl _ _ n => .ok True (.int .i64 n)
  | false, .nilsl => .ok True (.int .i64 0)
  | _, _ => .fail
def mmR (mx : Bool) (x y : AV) : Res :=
  match x, y with
  | .int k a, .int _ b => .ok True (.int k (if mx then (if b > a then b else a) else (if b < a then b else a)))
  | _, _ => .fail
def extR (a : AV) (i : Nat) : Res :=
  match a with
  | .tup vs => .ok (i < vs.length) (vs.getD i .undef)
  | _ => .fail
def nilcR (a : AV) : Res :=
  match a with
  | .elt e => .ok True (.elt e)
  | .ptr id i f => .ok True (.ptr id i f)
  | .vptr id f => .ok True (.vptr id f)
  | _ => .fail
def idxW (γ : Bool) (sz : Nat) (W : Option Win) (id off n : Nat) (i : Int) : Res :=
  match W with
  | some (.arr sz' _) => .ok ((γ = true → 0 ≤ i ∧ i < n) ∧ 0 < sz ∧ sz' = sz) (.ptr id (off + i.toNat) 0)
  | _ => .fail
def idxR (γ : Bool) (st : St) (sz : Nat) (x i : AV) : Res :=
  match x, i with
  | .ro sz' es, .int _ i => .ok ((γ = true → 0 ≤ i ∧ i < es.length) ∧ 0 < sz ∧ sz' = sz) (.elt (nth es i.toNat))
  | .sl id off n, .int _ i => idxW γ sz (hget st.h id) id off n i
  | _, _ => .fail
def sidxR (γ : Bool) (a b : AV) : Res :=
  match a, b with
  | .str l, .int _ i => .ok (γ = true → 0 ≤ i ∧ i < l.length) (.int .u8 (l.getD i.toNat 0).toNat)
  | _, _ => .fail
def ldcR (γ ag : Bool) (n : Nat) (cs : List AV) : Res :=
  match ag with
  | true => .ok (γ = true → n ≤ cs.length) (.agg (cs.take n))
  | false => .ok (γ = true → 0 < cs.length) (cs.getD 0 .undef)
def ldA (γ ag : Bool) (n i f : Nat) (W : Option Win) : Res :=
  match W with
  | some (.arr _ es) => ldcR γ ag n ((cellsOf (nth es i)).drop f)
  | _ => .fail
def ldV (γ ag : Bool) (n f : Nat) (W : Option Win) : Res :=
  match W with
  | some (.var cs) => ldcR γ ag n (cs.drop f)
  | _ => .fail
def ldR (γ : Bool) (st : St) (ag : Bool) (n : Nat) (x : AV) : Res :=
  match x with
  | .elt e => ldcR γ ag n (cellsOf e)
  | .ptr id i f => ldA γ ag n i f (hget st.h id)
  | .vptr id f => ldV γ ag n f (hget st.h id)
  | _ => .fail
inductive BR where
  | ok (c : Prop) (l h : Nat)
  | fail
def BR.To : BR → (Nat → Nat → Prop) → Prop
  | .ok c l h, K => c ∧ K l h
  | .fail, _ => False
def b1R (γ : Bool) (n : Nat) (c : Prop) (v : AV) : BR :=
  match v with
  | .int _ l => .ok (c ∧ (γ = true → 0 ≤ l ∧ l ≤ n)) l.toNat n
  | _ => .fail
def b2R (γ : Bool) (n : Nat) (c : Prop) (v : AV) : BR :=
  match v with
  | .int _ h => .ok (c ∧ (γ = true → 0 ≤ h ∧ h ≤ n)) 0 h.toNat
  | _ => .fail
def b3R (γ : Bool) (n : Nat) (c c' : Prop) (v v' : AV) : BR :=
  match v, v' with
  | .int _ l, .int _ h => .ok (c ∧ c' ∧ (γ = true → 0 ≤ l ∧ l ≤ h ∧ h ≤ n)) l.toNat h.toNat
  | _, _ => .fail
def bndR (γ : Bool) (st : St) (n : Nat) (lo hi : Option AE) : BR :=
  match lo, hi with
  | none, none => .ok True 0 n
  | some l, none => b1R γ n (stripC γ (ev st l)) (stripV (ev st l))
  | none, some h => b2R γ n (stripC γ (ev st h)) (stripV (ev st h))
  | some l, some h => b3R γ n (stripC γ (ev st l)) (stripC γ (ev st h)) (stripV (ev st l)) (stripV (ev st h))
theorem bndR_To {n : Nat} {lo hi : Option AE} {K : Nat → Nat → Prop} (h : (bndR γ st n lo hi).To K) : bnd γ st n lo hi K := by
  unfold bndR at h
  unfold bnd
  split at h
  · exact h.2
  · simp only [evg, strip_To]
    unfold b1R at h
    split at h
    · rename_i hv; exact ⟨h.1.1, by rw [hv]; exact ⟨h.1.2, h.2⟩⟩
    · exact h.elim
  · simp only [evg, strip_To]
    unfold b2R at h
    split at h
    · rename_i hv; exact ⟨h.1.1, by rw [hv]; exact ⟨h.1.2, h.2⟩⟩
    · exact h.elim
  · simp only [evg, strip_To]
    unfold b3R at h
    split at h
    · rename_i hv hv'; exact ⟨h.1.1, h.1.2.1, by rw [hv, hv']; exact ⟨h.1.2.2, h.2⟩⟩
    · exact h.elim
def slcStrR (s : List UInt8) (b : BR) : Res :=
  match b with
  | .ok c l h => .ok c (.str ((s.drop l).take (h - l)))
  | .fail => .fail
def slcSR (γ : Bool) (st : St) (lo hi : Option AE) (a : AV) : Res :=
  match a with
  | .str s => slcStrR s (bndR γ st s.length lo hi)
  | _ => .fail
def slcNilR (b : BR) : Res :=
  match b with
  | .ok c _ _ => .ok c .nilsl
  | .fail => .fail
def slcRoR (sz sz' : Nat) (es : List AV) (b : BR) : Res :=
  match b with
  | .ok c l h => .ok (sz' = sz ∧ c) (.ro sz (sub3 es l (h - l)))
  | .fail => .fail
def slcSlR (sz id off : Nat) (W : Option Win) (b : BR) : Res :=
  match b, W with
  | .ok c l h, some (.arr sz' _) => .ok (c ∧ sz' = sz) (.sl id (off + l) (h - l))
  | _, _ => .fail
def slcAR (γ : Bool) (st : St) (sz : Nat) (lo hi : Option AE) (a : AV) : Res :=
  match a with
  | .nilsl => slcNilR (bndR γ st 0 lo hi)
  | .ro sz' es => slcRoR sz sz' es (bndR γ st es.length lo hi)
  | .sl id off n => slcSlR sz id off (hget st.h id) (bndR γ st n lo hi)
  | _ => .fail
def fldW (off : Nat) (W : Option Win) (id i f : Nat) : Res :=
  match W with
  | some (.arr sz _) => .ok (f + off < sz) (.ptr id i (f + off))
  | _ => .fail
def fldE (γ ag : Bool) (off n : Nat) (cs : List AV) : Res :=
  match ag with
  | true => .ok ((γ = true → off + n ≤ cs.length) ∧ 0 < n) (.elt (.agg ((cs.drop off).take n)))
  | false => .ok ((γ = true → off + n ≤ cs.length) ∧ 0 < n ∧ n = 1 ∧ isCell (cs.getD off .undef) = true) (.elt (cs.getD off .undef))
def fldAR (γ : Bool) (st : St) (ag : Bool) (off n : Nat) (x : AV) : Res :=
  match x with
  | .elt e => fldE γ ag off n (cellsOf e)
  | .ptr id i f => fldW off (hget st.h id) id i f
  | .vptr id f => .ok True (.vptr id (f + off))
  | _ => .fail
def fldR (γ ag : Bool) (off n : Nat) (x : AV) : Res :=
  match x with
  | .agg cs => .ok ((γ = true → off + n ≤ cs.length) ∧ 0 < n) (if ag then .agg ((cs.drop off).take n) else cs.getD off .undef)
  | _ => .fail
def bldR (γ : Bool) (st : St) : List (Nat × Nat × AE) → List AV → Res
  | [], cs => .ok True (.agg cs)
  | (o, n, x) :: r, cs => andR (stripC γ (ev st x)) (andR (γ = true → cellsOK (stripV (ev st x)) = true ∧ (cellsOf (stripV (ev st x))).length = n ∧ o + n ≤ cs.length) (bldR γ st r (cs.take o ++ cellsOf (stripV (ev st x)) ++ cs.drop (o + n))))
def idxPR (γ : Bool) (len sz : Nat) (x i : AV) : Res :=
  match x, i with
  | .vptr id f, .int _ i => .ok (γ = true → 0 ≤ i ∧ i < len) (.vptr id (f + i.toNat * sz))
  | _, _ => .fail
def idxVR (γ : Bool) (len : Nat) (x i : AV) : Res :=
  match x, i with
  | .agg cs, .int _ i => .ok (γ = true → 0 ≤ i ∧ i < len ∧ i < cs.length) (cs.getD i.toNat .undef)
  | _, _ => .fail
def inilR (γ neg : Bool) (x : AV) : Res :=
  match x with
  | .lit v => .ok (γ = true → isIfV v = true) (.bool (if neg then !isNilV v else isNilV v))
  | _ => .fail
def snilW (γ neg : Bool) (n : Nat) (W : Option Win) : Res :=
  match W with
  | some (.arr _ _) => .ok (γ = true → 0 < n) (.bool neg)
  | _ => .fail
def snilR (γ : Bool) (st : St) (neg : Bool) (x : AV) : Res :=
  match x with
  | .nilsl => .ok True (.bool (!neg))
  | .sl id _ n => snilW γ neg n (hget st.h id)
  | .ro sz es => .ok (γ = true → 0 < es.length ∧ 0 < sz) (.bool neg)
  | _ => .fail
def cvsR (x : AV) : Res :=
  match x with
  | .int _ n => .ok True (.str (Utf8.encode n).data.toList)
  | _ => .fail
def mkiR (t : TypeId) (x : AV) : Res :=
  match x with
  | .agg [] => .ok True (.lit (.iface t (.agg #[])))
  | _ => .fail
def r1 (γ : Bool) (x : AV) (r : Res) : Res := andR (stripC γ x) r
def avalR (γ : Bool) (st : St) (o : AO) : Res :=
  match o with
  | .mov x => andR (stripC γ (ev st x)) (.ok True (stripV (ev st x)))
  | .pick c x y => andR (stripC γ (ev st c)) (pickR γ (stripV (ev st c)) (ev st x) (ev st y))
  | .bin op x y => andR (stripC γ (ev st x)) (andR (stripC γ (ev st y)) (binR γ op (stripV (ev st x)) (stripV (ev st y))))
  | .beq neg x y => andR (stripC γ (ev st x)) (andR (stripC γ (ev st y)) (beqR neg (stripV (ev st x)) (stripV (ev st y))))
  | .aeq neg ks x y => andR (stripC γ (ev st x)) (andR (stripC γ (ev st y)) (aeqR γ neg ks (stripV (ev st x)) (stripV (ev st y))))
  | .un op x => andR (stripC γ (ev st x)) (unR op (stripV (ev st x)))
  | .cvi k x => andR (stripC γ (ev st x)) (cviR k (stripV (ev st x)))
  | .cif k x => andR (stripC γ (ev st x)) (cifR k (stripV (ev st x)))
  | .cfi k x => andR (stripC γ (ev st x)) (cfiR γ k (stripV (ev st x)))
  | .cst x => andR (stripC γ (ev st x)) (cstR (stripV (ev st x)))
  | .bts x => andR (stripC γ (ev st x)) (btsR γ (slE 1 st (stripV (ev st x))))
  | .cplx x y => andR (stripC γ (ev st x)) (andR (stripC γ (ev st y)) (cplxR (stripV (ev st x)) (stripV (ev st y))))
  | .re x => andR (stripC γ (ev st x)) (reR (stripV (ev st x)))
  | .im x => andR (stripC γ (ev st x)) (imR (stripV (ev st x)))
  | .len str x => andR (stripC γ (ev st x)) (lenR str (stripV (ev st x)))
  | .mm mx x y => andR (stripC γ (ev st x)) (andR (stripC γ (ev st y)) (mmR mx (stripV (ev st x)) (stripV (ev st y))))
  | .ext x i => andR (stripC γ (ev st x)) (extR (stripV (ev st x)) i)
  | .nilc x => andR (stripC γ (ev st x)) (nilcR (stripV (ev st x)))
  | .idxA sz x i => andR (stripC γ (ev st x)) (andR (stripC γ (ev st i)) (idxR γ st sz (stripV (ev st x)) (stripV (ev st i))))
  | .sidx x i => andR (stripC γ (ev st x)) (andR (stripC γ (ev st i)) (sidxR γ (stripV (ev st x)) (stripV (ev st i))))
  | .ld ag n x => andR (stripC γ (ev st x)) (ldR γ st ag n (stripV (ev st x)))
  | .slcS x lo hi => andR (stripC γ (ev st x)) (slcSR γ st lo hi (stripV (ev st x)))
  | .slcA sz x lo hi => andR (stripC γ (ev st x)) (slcAR γ st sz lo hi (stripV (ev st x)))
  | .fldA ag off n x => andR (stripC γ (ev st x)) (fldAR γ st ag off n (stripV (ev st x)))
  | .fld ag off n x => andR (stripC γ (ev st x)) (fldR γ ag off n (stripV (ev st x)))
  | .bld z ps => bldR γ st ps z
  | .idxP len sz x i => andR (stripC γ (ev st x)) (andR (stripC γ (ev st i)) (idxPR γ len sz (stripV (ev st x)) (stripV (ev st i))))
  | .idxV len x i => andR (stripC γ (ev st x)) (andR (stripC γ (ev st i)) (idxVR γ len (stripV (ev st x)) (stripV (ev st i))))
  | .snil neg x => andR (stripC γ (ev st x)) (snilR γ st neg (stripV (ev st x)))
  | .inil neg x => andR (stripC γ (ev st x)) (inilR γ neg (stripV (ev st x)))
  | .mki t x => andR (stripC γ (ev st x)) (mkiR t (stripV (ev st x)))
  | .mkf f xs => .ok (vpL (xs.map (ev st)) = true) (.clo f (xs.map (ev st)))
  | .cvs x => andR (stripC γ (ev st x)) (cvsR (stripV (ev st x)))
  | _ => .fail
end
end Go.Proofs.YtgkcbhdpenmogaaDoor.Eng
