/- A part of the proof of the law SolveSolved: an abstract machine for the functions' code with its soundness, words, lemmas (assembled by a program). -/
import Derived.Orders
import Derived.Below
import Derived.KernelRfl
import Derived.Laws.MakeOwn
import Derived.Laws.IdiomCopy
import Derived.Laws.Tables
set_option linter.unusedVariables false
set_option linter.unusedSimpArgs false
set_option linter.unusedSectionVars false
section
set_option linter.unusedVariables false
set_option linter.unusedSimpArgs false
namespace Go.AM
inductive AV where
  | int (k : IntKind) (n : Int)
  | bool (b : Bool)
  | str (s : ByteArray)
  | nil
  | emp (c0 : Bool)
  | zero
  | lst (xs : List AV)
  | ref (id v s off len : Nat)
  | nilp
  | ptr (id v i j : Nat)
  | fad (x : AV)
  | nilf
  | fn (f : Nat) (fs cs : List AV)
  | agg (xs : List AV)
  | tup (xs : List AV)
  | undef
instance : Inhabited AV := ⟨.undef⟩
mutual
def AV.beq : AV → AV → Bool
  | .int k n, .int k' n' => k == k' && n == n'
  | .bool a, .bool b => a == b
  | .str a, .str b => decide (a = b)
  | .nil, .nil => true
  | .emp a, .emp b => a == b
  | .zero, .zero => true
  | .lst xs, .lst ys => AV.beqs xs ys
  | .ref a b c d e, .ref a' b' c' d' e' => a == a' && b == b' && c == c' && d == d' && e == e'
  | .nilp, .nilp => true
  | .ptr a b c d, .ptr a' b' c' d' => a == a' && b == b' && c == c' && d == d'
  | .fad x, .fad y => AV.beq x y
  | .nilf, .nilf => true
  | .fn f a b, .fn g c d => f == g && AV.beqs a c && AV.beqs b d
  | .agg xs, .agg ys => AV.beqs xs ys
  | .tup xs, .tup ys => AV.beqs xs ys
  | .undef, .undef => true
  | _, _ => false
def AV.beqs : List AV → List AV → Bool
  | [], [] => true
  | x :: xs, y :: ys => AV.beq x y && AV.beqs xs ys
  | _, _ => false
end
mutual
theorem AV.beq_eq : ∀ x y : AV, AV.beq x y = true → x = y := by
  intro x y h
  cases x <;> cases y <;> simp only [AV.beq, Bool.and_eq_true, beq_iff_eq, decide_eq_true_eq, Bool.false_eq_true] at h
  case int.int => rw [h.1, h.2]
  case bool.bool => rw [h]
  case str.str => rw [h]
  case nil.nil => rfl
  case emp.emp => rw [h]
  case zero.zero => rfl
  case lst.lst => rw [AV.beqs_eq _ _ h]
  case ref.ref => obtain ⟨⟨⟨⟨rfl, rfl⟩, rfl⟩, rfl⟩, rfl⟩ := h; rfl
  case nilp.nilp => rfl
  case ptr.ptr => obtain ⟨⟨⟨rfl, rfl⟩, rfl⟩, rfl⟩ := h; rfl
  case fad.fad => rw [AV.beq_eq _ _ h]
  case nilf.nilf => rfl
  case fn.fn => obtain ⟨⟨rfl, h1⟩, h2⟩ := h; rw [AV.beqs_eq _ _ h1, AV.beqs_eq _ _ h2]
  case agg.agg => rw [AV.beqs_eq _ _ h]
  case tup.tup => rw [AV.beqs_eq _ _ h]
  case undef.undef => rfl
theorem AV.beqs_eq : ∀ xs ys : List AV, AV.beqs xs ys = true → xs = ys := by
  intro xs ys h
  cases xs <;> cases ys <;> simp only [AV.beqs, Bool.and_eq_true, Bool.false_eq_true] at h
  · rfl
  · rw [AV.beq_eq _ _ h.1, AV.beqs_eq _ _ h.2]
end
mutual
theorem AV.beq_self : ∀ x : AV, AV.beq x x = true := by
  intro x
  cases x <;> simp only [AV.beq, Bool.and_eq_true, beq_self_eq_true, decide_true, and_self, true_and]
  case lst => exact AV.beqs_self _
  case fad => exact AV.beq_self _
  case fn => exact ⟨AV.beqs_self _, AV.beqs_self _⟩
  case agg => exact AV.beqs_self _
  case tup => exact AV.beqs_self _
theorem AV.beqs_self : ∀ xs : List AV, AV.beqs xs xs = true := by
  intro xs
  cases xs <;> simp only [AV.beqs, Bool.and_eq_true]
  exact ⟨AV.beq_self _, AV.beqs_self _⟩
end
structure Blk where
  v : Nat
  s : Nat
  xs : List AV
abbrev Heap := List (Option Blk)
abbrev Env := List (Nat × AV)
def get : Env → Nat → AV
  | [], _ => .undef
  | (d, v) :: r, t => if t = d then v else get r t
def put (env : Env) : Option Nat → AV → Env
  | none, _ => env
  | some d, v => (d, v) :: env
def cells : AV → List AV
  | .agg xs => xs
  | v => [v]
def mkv : Bool → List AV → Option AV
  | true, cs => some (.agg cs)
  | false, [x] => some x
  | false, _ => none
def sub (xs : List AV) (o n : Nat) : List AV := (xs.drop o).take n
def okCell : AV → Bool
  | .undef => false
  | .tup _ => false
  | .agg _ => false
  | _ => true
def okE (s : Nat) (e : AV) : Bool := (cells e).length == s && (cells e).all okCell
def okS (s : Nat) (xs : List AV) : Bool := xs.all (okE s)
def blk (h : Heap) (id v : Nat) : Option Blk :=
  match h[id]? with
  | some (some b) => if b.v = v then some b else none
  | _ => none
def elems (h : Heap) (s : Nat) : AV → Option (List AV)
  | .nil => some []
  | .emp _ => some []
  | .zero => some []
  | .lst xs => if okS s xs then some xs else none
  | .ref id v s' off len => if s' = s then (blk h id v).bind fun b => if okS s (sub b.xs off len) then some (sub b.xs off len) else none else none
  | _ => none
inductive Opd where
  | t (n : Nat)
  | c (v : AV)
  | f (g : Nat)
def ev (env : Env) : Opd → AV
  | .t n => get env n
  | .c v => v
  | .f g => .fn g [] []
inductive AOp where
  | mv (x : Opd)
  | pick (c a b : Opd)
  | bin (op : BinOp) (x y : Opd)
  | un (op : UnOp) (x : Opd)
  | conv (k : IntKind) (x : Opd)
  | alloc (z : AV)
  | box (x : Opd)
  | build (z : List AV) (parts : List (Nat × Nat × Opd))
  | bslice (n s : Nat) (z : AV) (parts : List (Nat × Opd))
  | bslicef (n s : Nat) (z : AV) (parts : List (Nat × Opd))
  | bslicev (n s : Nat) (z : AV) (parts : List (Nat × Opd))
  | load (s : Nat) (ag : Bool) (a : Opd)
  | store (s : Nat) (a x : Opd)
  | faddr (off s : Nat) (ag : Bool) (x : Opd)
  | fld (off s : Nat) (ag : Bool) (x : Opd)
  | iadr (s : Nat) (x i : Opd)
  | aadr (n s : Nat) (ag : Bool) (x i : Opd)
  | aidx (n s : Nat) (ag : Bool) (x i : Opd)
  | slice (s : Nat) (x : Opd) (lo hi mx : Option Opd)
  | len (st : Bool) (x : Opd)
  | cap (x : Opd)
  | app (s lim : Nat) (x y : Opd)
  | appz (s lim : Nat) (z : AV) (x n : Opd)
  | copy (s : Nat) (x y : Opd)
  | mm (mx : Bool) (x : Opd) (xs : List Opd)
  | mk (s lim : Nat) (z : AV) (l c : Opd)
  | call (raw : Bool) (f : Nat) (xs : List Opd)
  | callp (f : Nat) (xs : List Opd)
  | callv (raw : Bool) (x : Opd) (xs : List Opd)
  | ext (i : Nat) (x : Opd)
  | mkfn (f : Nat) (fs cs : List Opd)
  | emp0
  | clone (f : Nat) (x : Opd)
  | clonev (f : Nat) (x : Opd)
  | nilc (x : Opd)
  | eqs (ty : Nat) (neg : Bool) (x y : Opd)
  | fail
structure AOper where
  d : Option Nat
  op : AOp
  g : Option (Nat × Bool)
def binA (op : BinOp) : AV → AV → Option AV
  | .int k a, .int k' b =>
    match op with
    | .shl => if b < 0 then none else some (.int k (k.wrap (a * 2 ^ (min b.toNat k.bits))))
    | .shr => if b < 0 then none else some (.int k (a.fdiv (2 ^ (min b.toNat k.bits))))
    | .add => if k = k' then some (.int k (k.wrap (a + b))) else none
    | .sub => if k = k' then some (.int k (k.wrap (a - b))) else none
    | .mul => if k = k' then some (.int k (k.wrap (a * b))) else none
    | .quo => if k = k' then (if b = 0 then none else some (.int k (k.wrap (a.tdiv b)))) else none
    | .rem => if k = k' then (if b = 0 then none else some (.int k (a.tmod b))) else none
    | .and => if k = k' then some (.int k (k.wrap (BitVec.ofInt k.bits a &&& BitVec.ofInt k.bits b).toNat)) else none
    | .or => if k = k' then some (.int k (k.wrap (BitVec.ofInt k.bits a ||| BitVec.ofInt k.bits b).toNat)) else none
    | .xor => if k = k' then some (.int k (k.wrap (BitVec.ofInt k.bits a ^^^ BitVec.ofInt k.bits b).toNat)) else none
    | .andNot => if k = k' then some (.int k (k.wrap (BitVec.ofInt k.bits a &&& ~~~BitVec.ofInt k.bits b).toNat)) else none
    | .eql => if k = k' then some (.bool (decide (a = b))) else none
    | .neq => if k = k' then some (.bool (!decide (a = b))) else none
    | .lss => if k = k' then some (.bool (decide (a < b))) else none
    | .leq => if k = k' then some (.bool (decide (a ≤ b))) else none
    | .gtr => if k = k' then some (.bool (decide (b < a))) else none
    | .geq => if k = k' then some (.bool (decide (b ≤ a))) else none
  | .str a, .str b =>
    match op with
    | .eql => some (.bool (a.toList == b.toList))
    | .neq => some (.bool (!(a.toList == b.toList)))
    | _ => none
  | _, _ => none
def eqA : Nat → AV → AV → Option Bool
  | 1, .bool a, .bool b => some (a == b)
  | 2, .nilp, .nilp => some true
  | 2, .ptr .., .nilp => some false
  | 2, .fad _, .nilp => some false
  | 3, .nil, .nil => some true
  | 3, .emp _, .nil => some false
  | 3, .lst (_ :: _), .nil => some false
  | 3, .ref .., .nil => some false
  | 4, .nilf, .nilf => some true
  | 4, .fn .., .nilf => some false
  | _, _, _ => none
def unA (op : UnOp) : AV → Option AV
  | .int k n =>
    match op with
    | .neg => some (.int k (k.wrap (0 - n)))
    | .xor => some (.int k (k.wrap (BitVec.ofInt k.bits (if k.signed then -1 else k.max) ^^^ BitVec.ofInt k.bits n).toNat))
    | _ => none
  | .bool b =>
    match op with
    | .not => some (.bool !b)
    | _ => none
  | _ => none
def mm2 (mx : Bool) : AV → AV → Option AV
  | .int k a, .int _ b => some (.int k (if mx then (if b > a then b else a) else (if b < a then b else a)))
  | _, _ => none
def mmAll (mx : Bool) : AV → List AV → Option AV
  | x, [] => some x
  | x, y :: r => (mm2 mx x y).bind fun z => mmAll mx z r
def part (s : Nat) (ag : Bool) (cs : List AV) (off : Nat) : Option AV :=
  if off + s ≤ cs.length then mkv ag (sub cs off s) else none
def partA (s : Nat) (ag : Bool) (cs : List AV) (off : Nat) : Option AV :=
  (part s ag cs off).bind fun z => if ag || okCell z then some z else none
def loadA (h : Heap) (s : Nat) (ag : Bool) : AV → Option AV
  | .ptr id v i j => (blk h id v).bind fun b => (b.xs[i]?).bind fun e => part s ag (cells e) j
  | .fad x => if (cells x).length = s then mkv ag (cells x) else none
  | _ => none
def shut : AV → List AV → Option AV
  | .agg _, cs => some (.agg cs)
  | _, [y] => if okCell y then some y else none
  | _, _ => none
def storeA (h : Heap) (s : Nat) : AV → AV → Option Heap
  | .ptr id v i j, x => (blk h id v).bind fun b => (b.xs[i]?).bind fun e =>
      if okE s x = true ∧ j + s ≤ (cells e).length then
        (shut e ((cells e).take j ++ cells x ++ (cells e).drop (j + s))).map fun e' => h.set id (some { b with xs := b.xs.set i e' })
      else none
  | _, _ => none
def frz (h : Heap) : Nat → AV → Option AV
  | 0, _ => none
  | _ + 1, .nil => some (.lst [])
  | _ + 1, .emp _ => some (.lst [])
  | _ + 1, .zero => some (.lst [])
  | n + 1, .ref id v _ off len => (blk h id v).bind fun b => ((sub b.xs off len).mapM (frz h n)).map .lst
  | n + 1, .ptr id v i j => if j = 0 then (blk h id v).bind fun b => (b.xs[i]?).bind fun e => (frz h n e).map .fad else none
  | n + 1, .agg xs => (xs.mapM (frz h n)).map .agg
  | n + 1, .tup xs => (xs.mapM (frz h n)).map .tup
  | n + 1, .fn f fs cs => (fs.mapM (frz h n)).bind fun a => (cs.mapM (frz h n)).map fun b => .fn f a b
  | _ + 1, x => some x
def used (h : Heap) : Nat → AV → List Nat
  | 0, _ => []
  | n + 1, .ref id v _ off len => id :: (match blk h id v with | some b => (sub b.xs off len).flatMap (used h n) | none => [])
  | n + 1, .ptr id v i _ => id :: (match (blk h id v).bind fun b => b.xs[i]? with | some e => used h n e | none => [])
  | n + 1, .agg xs => xs.flatMap (used h n)
  | n + 1, .tup xs => xs.flatMap (used h n)
  | n + 1, .fn _ fs cs => fs.flatMap (used h n) ++ cs.flatMap (used h n)
  | _ + 1, _ => []
def kill (h : Heap) : List Nat → Heap
  | [] => h
  | i :: r => kill (h.set i none) r
def deep : Nat := 7
def bndA (x : AV) (hi : Nat) : Option Nat :=
  match x with
  | .int _ i => if 0 ≤ i ∧ i ≤ hi then some i.toNat else none
  | _ => none
def bndO (x : Option AV) (n d : Nat) : Option Nat :=
  match x with
  | some y => bndA y n
  | none => some d
def sliceA (s : Nat) (x : AV) (lo hi mx : Option AV) : Option AV :=
  match mx with
  | none =>
    let go (n : Nat) (k : Nat → Nat → Option AV) : Option AV :=
      (bndO hi n n).bind fun e => (bndO lo e 0).bind fun b => k b e
    match x with
    | .nil => go 0 fun _ _ => some .nil
    | .emp c => go 0 fun _ _ => some (.emp c)
    | .zero => go 0 fun _ _ => some .zero
    | .lst xs => if okS s xs then go xs.length fun b e => some (.lst (sub xs b (e - b))) else none
    | .ref id v s' off len => if s' = s then go len fun b e => some (.ref id v s (off + b) (e - b)) else none
    | _ => none
  | some (.int _ m) =>
    match lo, hi with
    | some (.int _ l), some (.int _ e) =>
      if l = 0 ∧ e = 0 ∧ m = 0 then
        match x with
        | .nil => some .nil
        | .emp _ => some (.emp true)
        | .lst (_ :: _) => some (.emp true)
        | .ref .. => some (.emp true)
        | _ => none
      else none
    | none, some (.int _ e) =>
      if e = 0 ∧ m = 0 then
        match x with
        | .nil => some .nil
        | .emp _ => some (.emp true)
        | .lst (_ :: _) => some (.emp true)
        | .ref .. => some (.emp true)
        | _ => none
      else none
    | _, _ => none
  | _ => none
def lenA : Bool → AV → Option AV
  | false, .nil => some (.int .i64 0)
  | false, .emp _ => some (.int .i64 0)
  | false, .zero => some (.int .i64 0)
  | false, .lst xs => some (.int .i64 xs.length)
  | false, .ref _ _ _ _ len => some (.int .i64 len)
  | true, .str s => some (.int .i64 s.size)
  | _, _ => none
def capA : AV → Option AV
  | .nil => some (.int .i64 0)
  | .emp true => some (.int .i64 0)
  | .zero => some (.int .i64 0)
  | _ => none
def appA (h : Heap) (s lim : Nat) (x y : AV) : Option (AV × Heap) :=
  (elems h s y).bind fun ys =>
  let new (z : AV) : Option (AV × Heap) :=
    if ys.isEmpty then some (z, h)
    else if ys.length ≤ lim then some (.ref h.length 0 s 0 ys.length, h ++ [some ⟨0, s, ys⟩]) else none
  match x with
  | .nil => new .nil
  | .emp true => new (.emp true)
  | .zero => new .zero
  | .ref id v s' off len =>
    if s' = s then (blk h id v).bind fun b =>
      if len + ys.length ≤ lim then some (.ref id (v + 1) s 0 (len + ys.length), h.set id (some ⟨v + 1, s, sub b.xs off len ++ ys⟩)) else none
    else none
  | _ => none
def copyA (h : Heap) (s : Nat) (x y : AV) : Option (AV × Heap) :=
  (elems h s y).bind fun ys =>
  match x with
  | .ref id v s' off len =>
    if s' = s then (blk h id v).map fun b =>
      let n := min ys.length len
      (.int .i64 n, h.set id (some { b with xs := b.xs.take off ++ ys.take n ++ b.xs.drop (off + n) }))
    else none
  | _ => none
def mkA (h : Heap) (s lim : Nat) (z l c : AV) : Option (AV × Heap) :=
  match l, c with
  | .int _ l, .int _ c => if 0 ≤ l ∧ l ≤ c ∧ c.toNat ≤ lim ∧ (cells z).length = s then
      some (.ref h.length 0 s 0 l.toNat, h ++ [some ⟨0, s, List.replicate l.toNat z⟩]) else none
  | _, _ => none
def fillA : List AV → List (Nat × Nat × AV) → Option (List AV)
  | cs, [] => some cs
  | cs, (off, s, x) :: r =>
    if okE s x = true ∧ off + s ≤ cs.length then fillA (cs.take off ++ cells x ++ cs.drop (off + s)) r else none
def fillS (s : Nat) : List AV → List (Nat × AV) → Option (List AV)
  | xs, [] => some xs
  | xs, (i, x) :: r => if okE s x = true ∧ i < xs.length then fillS s (xs.set i x) r else none
abbrev CR := Nat → List AV → Heap → Option (AV × Heap)
def callA (C : CR) (raw : Bool) (f : Nat) (args : List AV) (h : Heap) : Option (AV × Heap) :=
  if raw then C f args h
  else (args.mapM (frz h deep)).bind fun args' =>
    (C f args' []).bind fun r => (frz r.2 deep r.1).map fun x => (x, kill h (args.flatMap (used h deep)))
def Blk.beq (a b : Blk) : Bool := a.v == b.v && a.s == b.s && AV.beqs a.xs b.xs
def heapBeq : Heap → Heap → Bool
  | [], [] => true
  | none :: r, none :: q => heapBeq r q
  | some a :: r, some b :: q => Blk.beq a b && heapBeq r q
  | _, _ => false
theorem heapBeq_eq : ∀ {a b : Heap}, heapBeq a b = true → a = b := by
  intro a
  induction a with
  | nil => intro b h; cases b <;> simp [heapBeq] at h; rfl
  | cons x r ih =>
    intro b h
    cases b with
    | nil => cases x <;> simp [heapBeq] at h
    | cons y q =>
      cases x <;> cases y <;> simp [heapBeq, Blk.beq] at h
      · rw [ih h]
      · rename_i x y
        obtain ⟨⟨⟨h1, h2⟩, h3⟩, h4⟩ := h
        obtain ⟨a, b, c⟩ := x
        obtain ⟨a', b', c'⟩ := y
        simp only at h1 h2 h3
        rw [h1, h2, AV.beqs_eq _ _ h3, ih h4]
theorem heapBeq_self : ∀ a : Heap, heapBeq a a = true := by
  intro a
  induction a with
  | nil => rfl
  | cons x r ih => cases x <;> simp [heapBeq, Blk.beq, ih, AV.beqs_self]
def isNilR (h : Heap) : Option (AV × Heap) → Bool
  | some (.nil, h') => heapBeq h' h
  | _ => false
def isEmpR (h : Heap) : Option (AV × Heap) → Bool
  | some (.emp true, h') => heapBeq h' h
  | _ => false
def cloneA (C : CR) (f : Nat) (x : AV) (h : Heap) : Option (AV × Heap) :=
  match x with
  | .lst [] => if isNilR h (C f [.nil] h) && isEmpR h (C f [.emp false] h) then some (.zero, h) else none
  | x => C f [x] h
theorem cloneA_ne {C : CR} {f x h} (hx : x ≠ .lst []) : cloneA C f x h = C f [x] h := by
  unfold cloneA
  split
  · exact absurd rfl hx
  · rfl
theorem cloneA_nil {C : CR} {f h} : cloneA C f (.lst []) h = if isNilR h (C f [.nil] h) && isEmpR h (C f [.emp false] h) then some (.zero, h) else none := rfl
def cloneV (C : CR) (f : Nat) (x : AV) (h : Heap) : Option (AV × Heap) :=
  match x with
  | .lst [] => if isNilR h (C f [.nil] h) && isEmpR h (C f [.emp false] h) then some (.lst [], h) else none
  | x => callA C false f [x] h
theorem cloneV_ne {C : CR} {f x h} (hx : x ≠ .lst []) : cloneV C f x h = callA C false f [x] h := by
  unfold cloneV
  split
  · exact absurd rfl hx
  · rfl
theorem cloneV_nil {C : CR} {f h} : cloneV C f (.lst []) h = if isNilR h (C f [.nil] h) && isEmpR h (C f [.emp false] h) then some (.lst [], h) else none := rfl
def callV (C : CR) (f : Nat) (args : List AV) : Option AV :=
  (args.mapM (frz [] deep)).bind fun a => (C f a []).bind fun r => frz r.2 deep r.1
def bslF (h : Heap) (n s : Nat) (z : AV) (is : List Nat) (xs : List AV) : Option (AV × Heap) :=
  if (cells z).length = s then (xs.mapM (frz h deep)).bind fun ys => (fillS s (List.replicate n z) (is.zip ys)).map fun r => (.ref h.length 0 s 0 n, kill h (xs.flatMap (used h deep)) ++ [some ⟨0, s, r⟩]) else none
def bslV (n s : Nat) (z : AV) (is : List Nat) (xs : List AV) : Option AV :=
  if (cells z).length = s then (xs.mapM (frz [] deep)).bind fun ys => (fillS s (List.replicate n z) (is.zip ys)).bind fun r => frz [some ⟨0, s, r⟩] deep (.ref 0 0 s 0 n) else none
def opA (C : CR) (ρ : Opd → AV) (h : Heap) : AOp → Option (AV × Heap)
  | .mv x => some (ρ x, h)
  | .pick c a b => match ρ c with | .bool t => some (if t then ρ a else ρ b, h) | _ => none
  | .bin op x y => (binA op (ρ x) (ρ y)).map (·, h)
  | .un op x => (unA op (ρ x)).map (·, h)
  | .conv k x => match ρ x with | .int _ n => some (.int k (k.wrap n), h) | _ => none
  | .alloc z => some (.ptr h.length 0 0 0, h ++ [some ⟨0, (cells z).length, [z]⟩])
  | .box x => if (cells (ρ x)).all okCell then some (.ptr h.length 0 0 0, h ++ [some ⟨0, (cells (ρ x)).length, [ρ x]⟩]) else none
  | .build z parts => (fillA z (parts.map fun p => (p.1, p.2.1, ρ p.2.2))).map fun cs => (.agg cs, h)
  | .bslice n s z parts => if (cells z).length = s then (fillS s (List.replicate n z) (parts.map fun p => (p.1, ρ p.2))).map fun xs => (.ref h.length 0 s 0 n, h ++ [some ⟨0, s, xs⟩]) else none
  | .bslicef n s z parts => bslF h n s z (parts.map fun p => p.1) (parts.map fun p => ρ p.2)
  | .bslicev n s z parts => (bslV n s z (parts.map fun p => p.1) (parts.map fun p => ρ p.2)).map (·, h)
  | .load s ag a => (loadA h s ag (ρ a)).map (·, h)
  | .store s a x => (storeA h s (ρ a) (ρ x)).map fun h' => (.undef, h')
  | .faddr off s ag x => match ρ x with
    | .ptr id v i j => some (.ptr id v i (j + off), h)
    | .fad y => (partA s ag (cells y) off).map fun z => (.fad z, h)
    | _ => none
  | .fld off s ag x => match ρ x with | .agg cs => (part s ag cs off).map (·, h) | _ => none
  | .iadr s x i => match ρ x, ρ i with
    | .ref id v s' off len, .int _ n => if s' = s ∧ 0 ≤ n ∧ n < len then some (.ptr id v (off + n.toNat) 0, h) else none
    | .lst xs, .int _ n => if 0 ≤ n then match xs[n.toNat]? with
        | some e => if (cells e).length = s then some (.fad e, h) else none
        | none => none
      else none
    | _, _ => none
  | .aadr n s ag x i => match ρ x, ρ i with
    | .ptr id v a j, .int _ m => if 0 ≤ m ∧ m < n then some (.ptr id v a (j + m.toNat * s), h) else none
    | .fad y, .int _ m => if 0 ≤ m ∧ m < n then (partA s ag (cells y) (m.toNat * s)).map fun z => (.fad z, h) else none
    | _, _ => none
  | .aidx n s ag x i => match ρ x, ρ i with
    | .agg cs, .int _ m => if 0 ≤ m ∧ m < n then (part s ag cs (m.toNat * s)).map (·, h) else none
    | _, _ => none
  | .slice s x lo hi mx => (sliceA s (ρ x) (lo.map ρ) (hi.map ρ) (mx.map ρ)).map (·, h)
  | .len st x => (lenA st (ρ x)).map (·, h)
  | .cap x => (capA (ρ x)).map (·, h)
  | .app s lim x y => appA h s lim (ρ x) (ρ y)
  | .appz s lim z x n => match ρ n with
    | .int .i64 m => if 0 ≤ m ∧ m ≤ lim ∧ (cells z).length = s then appA h s lim (ρ x) (.lst (List.replicate m.toNat z)) else none
    | _ => none
  | .copy s x y => copyA h s (ρ x) (ρ y)
  | .mm mx x xs => (mmAll mx (ρ x) (xs.map ρ)).map (·, h)
  | .mk s lim z l c => mkA h s lim z (ρ l) (ρ c)
  | .call raw f xs => callA C raw f (xs.map ρ) h
  | .callp f xs => (callV C f (xs.map ρ)).map (·, h)
  | .callv raw x xs => match ρ x with | .fn f fs cs => callA C raw f (fs ++ xs.map ρ ++ cs) h | _ => none
  | .ext i x => match ρ x with | .tup xs => (xs[i]?).map (·, h) | _ => none
  | .emp0 => some (.emp true, h)
  | .clone f x => cloneA C f (ρ x) h
  | .clonev f x => cloneV C f (ρ x) h
  | .mkfn f fs cs => some (.fn f (fs.map ρ) (cs.map ρ), h)
  | .nilc x => match ρ x with
    | .ptr id v i j => some (.ptr id v i j, h)
    | .fad y => some (.fad y, h)
    | _ => none
  | .eqs ty neg x y => (eqA ty (ρ x) (ρ y)).map fun b => (.bool (if neg then !b else b), h)
  | .fail => none
def operA (C : CR) (o : AOper) (env : Env) (h : Heap) : Option (AV × Heap) :=
  match o.g with
  | none => opA C (ev env) h o.op
  | some (t, want) => match get env t with
    | .bool b => if b = want then opA C (ev env) h o.op else some (.tup [], h)
    | .tup [] => some (.tup [], h)
    | _ => none
def regA (C : CR) : List AOper → Env → Heap → Option (Env × Heap)
  | [], env, h => some (env, h)
  | o :: r, env, h => (operA C o env h).bind fun p => regA C r (put env o.d p.1) p.2
def heapsA (C : CR) : List AOper → Env → Heap → List Heap
  | [], _, _ => []
  | o :: r, env, h => match operA C o env h with
    | some p => p.2 :: heapsA C r (put env o.d p.1) p.2
    | none => []
def stableA (C : CR) (env : Env) (hs : List Heap) (ops : List AOper) (p : Nat × Nat) : Bool :=
  match ops[p.1]?, hs[p.2]? with
  | some o, some h => match operA C o env h, o.d with
    | some q, some d => AV.beq q.1 (get env d)
    | _, _ => false
  | _, _ => false
structure St where
  env : Env
  h : Heap
def St.keep (ks : List Nat) (env : Env) : Env := ks.map fun k => (k, get env k)
inductive Ex where
  | normal
  | exit (id : Nat)
  | ret
inductive ACode where
  | skip
  | reg (ops : List AOper)
  | regd (ops : List AOper) (plan : List (Nat × Nat))
  | seq (a b : ACode)
  | cond (c : Opd) (a b : ACode)
  | block (id : Nat) (a : ACode)
  | loop (a : ACode)
  | exit (id : Nat)
  | ret
  | frz (t : Nat) (a : ACode)
  | fail
def frzSt (t : Nat) (s : St) : Option St :=
  (frz s.h deep (get s.env t)).map fun x => ⟨put s.env (some t) x, kill s.h (used s.h deep (get s.env t))⟩
abbrev LR := ACode → St → Option (Ex × St)
def exec (C : CR) (L : LR) (ks : List Nat) : ACode → St → Option (Ex × St)
  | .skip, s => some (.normal, s)
  | .reg ops, s => (regA C ops s.env s.h).map fun p => (.normal, ⟨St.keep ks p.1, p.2⟩)
  | .regd ops plan, s => (regA C ops s.env s.h).bind fun p =>
      if plan.all (stableA C p.1 (s.h :: heapsA C ops s.env s.h) ops) then some (.normal, ⟨St.keep ks p.1, p.2⟩) else none
  | .seq a b, s => (exec C L ks a s).bind fun r => match r.1 with
    | .normal => exec C L ks b r.2
    | e => some (e, r.2)
  | .cond c a b, s => match ev s.env c with
    | .bool t => if t then exec C L ks a s else exec C L ks b s
    | _ => none
  | .block id a, s => (exec C L ks a s).map fun r => match r.1 with
    | .exit i => if i = id then (.normal, r.2) else (.exit i, r.2)
    | e => (e, r.2)
  | .loop a, s => L a s
  | .exit id, s => some (.exit id, s)
  | .ret, s => some (.ret, s)
  | .frz t a, s => (frzSt t s).bind fun s' => exec C L ks a s'
  | .fail, _ => none
structure AFunc where
  np : Nat
  nt : Nat
  ks : List Nat
  res : List (Nat × Option (Nat × Bool))
  body : ACode
def res1 (s : St) : Nat × Option (Nat × Bool) → Option AV
  | (t, none) => some (get s.env t)
  | (t, some (n, ag)) => loadA s.h n ag (get s.env t)
def resA (res : List (Nat × Option (Nat × Bool))) (s : St) : Option (AV × Heap) :=
  match res with
  | [t] => (res1 s t).map (·, s.h)
  | ts => (ts.mapM (res1 s)).map fun vs => (.tup vs, s.h)
def args0 : Nat → List AV → Env
  | _, [] => []
  | i, x :: r => (i, x) :: args0 (i + 1) r
mutual
def loopN (F : Nat → Option AFunc) (ks : List Nat) : Nat → ACode → St → Option (Ex × St)
  | 0, _, _ => none
  | n + 1, a, s => (exec (callN F n) (loopN F ks n) ks a s).bind fun r => match r.1 with
    | .normal => loopN F ks n a r.2
    | e => some (e, r.2)
def callN (F : Nat → Option AFunc) : Nat → Nat → List AV → Heap → Option (AV × Heap)
  | 0, _, _, _ => none
  | n + 1, f, args, h => match F f with
    | none => none
    | some a => if args.length = a.np then
        (exec (callN F n) (loopN F a.ks n) a.ks a.body ⟨args0 0 args, h⟩).bind fun r => match r.1 with
          | .normal => resA a.res r.2
          | .ret => resA a.res r.2
          | _ => none
      else none
end
end Go.AM

end
section
set_option linter.unusedVariables false
set_option linter.unusedSimpArgs false
namespace Go.AM
open Go
structure Loc where
  v : Nat
  b : Nat
  base : Nat
  s : Nat
  n : Nat
structure Kr where
  n : Nat
  loc : Nat → Option Loc
  ban : Nat → Prop
  vir : Nat → Prop
def Kr.rng (k : Kr) (b : Nat) : Prop := ∃ id l, k.loc id = some l ∧ l.b = b
def Kr.ok (k : Kr) (id : Nat) : Prop := id < k.n ∧ ¬ k.vir id
def Kr.bad (k : Kr) (b : Nat) : Prop := k.ban b ∨ k.rng b
inductive FRel (bad : Nat → Prop) (w : World) : AV → Value → Prop
  | int (k : IntKind) (n : Int) : FRel bad w (.int k n) (.int k n)
  | bool (b : Bool) : FRel bad w (.bool b) (.bool b)
  | str (s : ByteArray) : FRel bad w (.str s) (.string s)
  | nil : FRel bad w .nil (.slice none 0 0)
  | emp (c0 : Bool) (a : Addr) (cap : Nat) (h : c0 = true → cap = 0) : FRel bad w (.emp c0) (.slice (some a) 0 cap)
  | zero (a : Option Addr) : FRel bad w .zero (.slice a 0 0)
  | lst0 (a : Option Addr) (cap : Nat) (hn : a = none → cap = 0) : FRel bad w (.lst []) (.slice a 0 cap)
  | lst (xs : List AV) (a : Addr) (cap s : Nat) (vs : Nat → Nat → Value) (hl : xs.length ≤ cap) (hs : ∀ e ∈ xs, (cells e).length = s) (hb : ¬ bad a.block) (hz : a.block < w.heap.size)
      (hc : ∀ i j, i < xs.length → j < s → w.cell? (a.add (i * s + j)) = some (vs i j))
      (hr : ∀ i j e x, xs[i]? = some e → (cells e)[j]? = some x → FRel bad w x (vs i j)) : FRel bad w (.lst xs) (.slice (some a) xs.length cap)
  | nilp : FRel bad w .nilp (.pointer none)
  | nilf : FRel bad w .nilf .nilFunc
  | fad (x : AV) (a : Addr) (vs : Nat → Value) (hb : ¬ bad a.block) (hz : a.block < w.heap.size)
      (hc : ∀ j, j < (cells x).length → w.cell? (a.add j) = some (vs j))
      (hr : ∀ j y, (cells x)[j]? = some y → FRel bad w y (vs j)) : FRel bad w (.fad x) (.pointer (some a))
  | fn (f : Nat) (fs cs : List AV) (vf vc : Array Value) (hf : fs.length = vf.size) (hc : cs.length = vc.size)
      (rf : ∀ i x, fs[i]? = some x → FRel bad w x (vf.getD i undef)) (rc : ∀ i x, cs[i]? = some x → FRel bad w x (vc.getD i undef)) : FRel bad w (.fn f fs cs) (.func (.func f) vf vc)
  | agg (xs : List AV) (vs : Array Value) (hl : xs.length = vs.size) (hr : ∀ i x, xs[i]? = some x → FRel bad w x (vs.getD i undef)) : FRel bad w (.agg xs) (.agg vs)
  | tup (xs : List AV) (vs : Array Value) (hl : xs.length = vs.size) (hr : ∀ i x, xs[i]? = some x → FRel bad w x (vs.getD i undef)) : FRel bad w (.tup xs) (.tuple vs)
  | undef (v : Value) : FRel bad w .undef v
theorem cell_of_block {w w' : World} {a : Addr} (h : w'.heap[a.block]? = w.heap[a.block]?) : w'.cell? a = w.cell? a := by simp [World.cell?, h]
theorem add_block (a : Addr) (n : Nat) : (a.add n).block = a.block := by unfold Addr.add; split <;> rfl
theorem add_add (a : Addr) (m n : Nat) : (a.add m).add n = a.add (m + n) := by
  unfold Addr.add
  by_cases hm : m = 0
  · subst hm; simp
  · by_cases hn : n = 0
    · subst hn; simp [hm]
    · simp [hm, hn, Nat.add_assoc]
theorem FRel.mono {bad bad' : Nat → Prop} {w w' : World} (hz : w.heap.size ≤ w'.heap.size) (h : ∀ b, b < w.heap.size → ¬ bad b → w'.heap[b]? = w.heap[b]? ∧ ¬ bad' b) {x : AV} {v : Value} (H : FRel bad w x v) : FRel bad' w' x v := by
  induction H with
  | int k n => exact .int k n
  | bool b => exact .bool b
  | str s => exact .str s
  | nil => exact .nil
  | emp c0 a cap hc => exact .emp c0 a cap hc
  | zero a => exact .zero a
  | lst0 a cap hn => exact .lst0 a cap hn
  | lst xs a cap s vs hl hs hb hz' hc hr ih =>
    obtain ⟨h1, h2⟩ := h _ hz' hb
    refine .lst xs a cap s vs hl hs h2 (Nat.lt_of_lt_of_le hz' hz) (fun i j hi hj => ?_) ih
    exact (cell_of_block (by rw [add_block]; exact h1)).trans (hc i j hi hj)
  | nilp => exact .nilp
  | nilf => exact .nilf
  | fad x a vs hb hz' hc hr ih =>
    obtain ⟨h1, h2⟩ := h _ hz' hb
    refine .fad x a vs h2 (Nat.lt_of_lt_of_le hz' hz) (fun j hj => ?_) ih
    exact (cell_of_block (by rw [add_block]; exact h1)).trans (hc j hj)
  | fn f fs cs vf vc hf hc rf rc ihf ihc => exact .fn f fs cs vf vc hf hc ihf ihc
  | agg xs vs hl hr ih => exact .agg xs vs hl ih
  | tup xs vs hl hr ih => exact .tup xs vs hl ih
  | undef v => exact .undef v
def RefAt (w : World) (l : Loc) (s off len cap : Nat) (a : Addr) : Prop :=
  (a = ⟨l.b, l.base + off * s, none⟩ ∧ ∃ (c : Array Value) (e : TypeId) (f : Nat × Nat), w.heap[l.b]? = some (Obj.cells c e f) ∧ l.base + (off + cap) * s ≤ c.size) ∨ (len = 0 ∧ cap = 0)
inductive VRel (k : Kr) (w : World) : AV → Value → Prop
  | frz {x : AV} {v : Value} (h : FRel k.bad w x v) : VRel k w x v
  | ref (id v s off len : Nat) (a : Addr) (cap : Nat) (hid : k.ok id) (hl : len ≤ cap)
      (h : ∀ l, k.loc id = some l → v ≤ l.v ∧ (v = l.v → l.s = s ∧ off + len ≤ l.n ∧ RefAt w l s off len cap a)) : VRel k w (.ref id v s off len) (.slice (some a) len cap)
  | ptr (id v i j : Nat) (a : Addr) (hid : k.ok id) (h : ∀ l, k.loc id = some l → v ≤ l.v ∧ (v = l.v → a = ⟨l.b, l.base + i * l.s + j, none⟩)) : VRel k w (.ptr id v i j) (.pointer (some a))
  | fn (f : Nat) (fs cs : List AV) (vf vc : Array Value) (hf : fs.length = vf.size) (hc : cs.length = vc.size)
      (rf : ∀ i x, fs[i]? = some x → VRel k w x (vf.getD i undef)) (rc : ∀ i x, cs[i]? = some x → VRel k w x (vc.getD i undef)) : VRel k w (.fn f fs cs) (.func (.func f) vf vc)
  | agg (xs : List AV) (vs : Array Value) (hl : xs.length = vs.size) (hr : ∀ i x, xs[i]? = some x → VRel k w x (vs.getD i undef)) : VRel k w (.agg xs) (.agg vs)
  | tup (xs : List AV) (vs : Array Value) (hl : xs.length = vs.size) (hr : ∀ i x, xs[i]? = some x → VRel k w x (vs.getD i undef)) : VRel k w (.tup xs) (.tuple vs)
structure BRel (k : Kr) (w : World) (l : Loc) (xs : List AV) : Prop where
  ex : ∃ (c : Array Value) (e : TypeId), w.heap[l.b]? = some (Obj.cells c e (0, 0)) ∧ l.base + xs.length * l.s ≤ c.size ∧
    ∀ i y j x, xs[i]? = some y → (cells y)[j]? = some x → VRel k w x (c.getD (l.base + i * l.s + j) Go.undef)
  sz : ∀ y ∈ xs, (cells y).length = l.s
structure HRel (k : Kr) (h : Heap) (w : World) : Prop where
  n : k.n = h.length
  live : ∀ id b, h[id]? = some (some b) → ∃ l, k.loc id = some l ∧ l.v = b.v ∧ l.s = b.s ∧ l.n = b.xs.length ∧ BRel k w l b.xs
  dead : ∀ id, (∀ b, h[id]? ≠ some (some b)) → k.loc id = none
  inj : ∀ i j l m, k.loc i = some l → k.loc j = some m → l.b = m.b → i = j
  nob : ∀ i l, k.loc i = some l → ¬ k.ban l.b
  banlt : ∀ b, k.ban b → b < w.heap.size
  virlt : ∀ id, k.vir id → id < k.n ∧ k.loc id = none
structure Frw (k : Kr) (w : World) (k' : Kr) (w' : World) : Prop where
  os : w'.os = w.os
  tape : w'.tape = w.tape
  output : w'.output = w.output
  size : w.heap.size ≤ w'.heap.size
  old : ∀ b, b < w.heap.size → ¬ k.rng b → w'.heap[b]? = w.heap[b]? ∧ ¬ k'.rng b
  shape : ∀ (b : Nat) (c : Array Value) (e : TypeId) (f : Nat × Nat), w.heap[b]? = some (Obj.cells c e f) → ∃ (c' : Array Value) (e' : TypeId) (f' : Nat × Nat), w'.heap[b]? = some (Obj.cells c' e' f') ∧ c'.size = c.size
  n : k.n ≤ k'.n
  ban : k'.ban = k.ban
  vir : ∀ id, id < k.n → k'.vir id → k.vir id
  loc : ∀ id l', k.ok id → k'.loc id = some l' → ∃ l, k.loc id = some l ∧ (l' = l ∨ l.v < l'.v)
structure Fr (k : Kr) (w : World) (k' : Kr) (w' : World) : Prop extends Frw k w k' w' where
  vir2 : ∀ id, id < k.n → k.vir id → k'.vir id
theorem Fr.refl (k : Kr) (w : World) : Fr k w k w :=
  ⟨⟨rfl, rfl, rfl, Nat.le_refl _, fun b _ h => ⟨rfl, h⟩, fun b c e f h => ⟨c, e, f, h, rfl⟩, Nat.le_refl _, rfl, fun _ _ h => h, fun id l' _ h => ⟨l', h, .inl rfl⟩⟩, fun _ _ h => h⟩
theorem Frw.trans {k k' k'' : Kr} {w w' w'' : World} (h1 : Frw k w k' w') (h2 : Frw k' w' k'' w'') : Frw k w k'' w'' where
  os := h2.os.trans h1.os
  tape := h2.tape.trans h1.tape
  output := h2.output.trans h1.output
  size := Nat.le_trans h1.size h2.size
  old := fun b hb hr => by
    obtain ⟨a1, a2⟩ := h1.old b hb hr
    obtain ⟨b1, b2⟩ := h2.old b (Nat.lt_of_lt_of_le hb h1.size) a2
    exact ⟨b1.trans a1, b2⟩
  shape := fun b c e f h => by
    obtain ⟨c1, e1, f1, g1, s1⟩ := h1.shape b c e f h
    obtain ⟨c2, e2, f2, g2, s2⟩ := h2.shape b c1 e1 f1 g1
    exact ⟨c2, e2, f2, g2, s2.trans s1⟩
  n := Nat.le_trans h1.n h2.n
  ban := h2.ban.trans h1.ban
  vir := fun id hid h => h1.vir id hid (h2.vir id (Nat.lt_of_lt_of_le hid h1.n) h)
  loc := fun id l'' hid h => by
    obtain ⟨l', g', c'⟩ := h2.loc id l'' ⟨Nat.lt_of_lt_of_le hid.1 h1.n, fun hv => hid.2 (h1.vir id hid.1 hv)⟩ h
    obtain ⟨l, g, c⟩ := h1.loc id l' hid g'
    refine ⟨l, g, ?_⟩
    rcases c' with rfl | c' <;> rcases c with rfl | c
    · exact .inl rfl
    · exact .inr c
    · exact .inr c'
    · exact .inr (Nat.lt_trans c c')
theorem Fr.trans {k k' k'' : Kr} {w w' w'' : World} (h1 : Fr k w k' w') (h2 : Fr k' w' k'' w'') : Fr k w k'' w'' :=
  ⟨h1.toFrw.trans h2.toFrw, fun id hid hv => h2.vir2 id (Nat.lt_of_lt_of_le hid h1.n) (h1.vir2 id hid hv)⟩
theorem Frw.ok {k k' : Kr} {w w' : World} (h : Frw k w k' w') {id : Nat} (hid : k.ok id) : k'.ok id := ⟨Nat.lt_of_lt_of_le hid.1 h.n, fun hv => hid.2 (h.vir id hid.1 hv)⟩
theorem Frw.bad {k k' : Kr} {w w' : World} (h : Frw k w k' w') : ∀ b, b < w.heap.size → ¬ k.bad b → w'.heap[b]? = w.heap[b]? ∧ ¬ k'.bad b := by
  intro b hb hn
  have h1 : ¬ k.rng b := fun h' => hn (.inr h')
  have h2 : ¬ k.ban b := fun h' => hn (.inl h')
  obtain ⟨a1, a2⟩ := h.old b hb h1
  refine ⟨a1, fun h' => ?_⟩
  rcases h' with h' | h'
  · rw [h.ban] at h'; exact h2 h'
  · exact a2 h'
theorem VRel.monow {k k' : Kr} {w w' : World} (h : Frw k w k' w') {x : AV} {v : Value} (H : VRel k w x v) : VRel k' w' x v := by
  induction H with
  | frz hf => exact .frz (hf.mono h.size h.bad)
  | ref id v s off len a cap hid hl hr =>
    refine .ref id v s off len a cap (h.ok hid) hl fun l' hl' => ?_
    obtain ⟨l, g, c⟩ := h.loc id l' hid hl'
    obtain ⟨h1, h2⟩ := hr l g
    rcases c with rfl | c
    · refine ⟨h1, fun hv => ?_⟩
      obtain ⟨a1, a2, a3⟩ := h2 hv
      refine ⟨a1, a2, ?_⟩
      rcases a3 with ⟨a3, c0, e0, f0, g0, a4⟩ | a3
      · obtain ⟨c1, e1, f1, g1, s1⟩ := h.shape _ _ _ _ g0
        exact .inl ⟨a3, c1, e1, f1, g1, by omega⟩
      · exact .inr a3
    · exact ⟨by omega, fun hv => by omega⟩
  | ptr id v i j a hid hr =>
    refine .ptr id v i j a (h.ok hid) fun l' hl' => ?_
    obtain ⟨l, g, c⟩ := h.loc id l' hid hl'
    obtain ⟨h1, h2⟩ := hr l g
    rcases c with rfl | c
    · exact ⟨h1, h2⟩
    · exact ⟨by omega, fun hv => by omega⟩
  | fn f fs cs vf vc hf hc rf rc ihf ihc => exact .fn f fs cs vf vc hf hc ihf ihc
  | agg xs vs hl hr ih => exact .agg xs vs hl ih
  | tup xs vs hl hr ih => exact .tup xs vs hl ih
theorem VRel.mono {k k' : Kr} {w w' : World} (h : Fr k w k' w') {x : AV} {v : Value} (H : VRel k w x v) : VRel k' w' x v := H.monow h.toFrw
end Go.AM

end
section
set_option linter.unusedVariables false
set_option linter.unusedSimpArgs false
namespace Go.AM
open Go
section inv
variable {k : Kr} {w : World} {v : Value}
theorem VRel.int_inv {kk n} (H : VRel k w (.int kk n) v) : v = .int kk n := by cases H with | frz h => cases h; rfl
theorem VRel.bool_inv {b} (H : VRel k w (.bool b) v) : v = .bool b := by cases H with | frz h => cases h; rfl
theorem VRel.str_inv {s} (H : VRel k w (.str s) v) : v = .string s := by cases H with | frz h => cases h; rfl
theorem VRel.nil_inv (H : VRel k w .nil v) : v = .slice none 0 0 := by cases H with | frz h => cases h; rfl
theorem VRel.nilp_inv (H : VRel k w .nilp v) : v = .pointer none := by cases H with | frz h => cases h; rfl
theorem VRel.nilf_inv (H : VRel k w .nilf v) : v = .nilFunc := by cases H with | frz h => cases h; rfl
theorem VRel.emp_inv {c} (H : VRel k w (.emp c) v) : ∃ a cap, v = .slice (some a) 0 cap ∧ (c = true → cap = 0) := by
  cases H with | frz h => cases h with | emp _ a cap h => exact ⟨a, cap, rfl, h⟩
theorem VRel.zero_inv (H : VRel k w .zero v) : ∃ a, v = .slice a 0 0 := by cases H with | frz h => cases h with | zero a => exact ⟨a, rfl⟩
theorem VRel.lst_inv {xs} (H : VRel k w (.lst xs) v) : ∃ a cap, v = .slice a xs.length cap ∧ xs.length ≤ cap ∨ v = .slice a 0 cap ∧ xs = [] := by
  cases H with
  | frz h =>
    cases h with
    | lst0 a cap hn => exact ⟨a, cap, .inr ⟨rfl, rfl⟩⟩
    | lst _ a cap s vs hl hs hb hz hc hr => exact ⟨some a, cap, .inl ⟨rfl, hl⟩⟩
theorem VRel.ref_inv {id vv s off len} (H : VRel k w (.ref id vv s off len) v) : ∃ a cap, v = .slice (some a) len cap ∧ k.ok id ∧ len ≤ cap ∧
    ∀ l, k.loc id = some l → vv ≤ l.v ∧ (vv = l.v → l.s = s ∧ off + len ≤ l.n ∧ RefAt w l s off len cap a) := by
  cases H with
  | frz h => cases h
  | ref _ _ _ _ _ a cap hid hl h => exact ⟨a, cap, rfl, hid, hl, h⟩
theorem VRel.ptr_inv {id vv i j} (H : VRel k w (.ptr id vv i j) v) : ∃ a, v = .pointer (some a) ∧ k.ok id ∧ ∀ l, k.loc id = some l → vv ≤ l.v ∧ (vv = l.v → a = ⟨l.b, l.base + i * l.s + j, none⟩) := by
  cases H with
  | frz h => cases h
  | ptr _ _ _ _ a hid h => exact ⟨a, rfl, hid, h⟩
theorem VRel.fad_inv {x} (H : VRel k w (.fad x) v) : ∃ a, v = .pointer (some a) ∧ ∃ vs : Nat → Value, ¬ k.bad a.block ∧ a.block < w.heap.size ∧ (∀ j, j < (cells x).length → w.cell? (a.add j) = some (vs j)) ∧
    ∀ j y, (cells x)[j]? = some y → FRel k.bad w y (vs j) := by
  cases H with
  | frz h => cases h with | fad _ a vs hb hz hc hr => exact ⟨a, rfl, vs, hb, hz, hc, hr⟩
theorem VRel.agg_inv {xs} (H : VRel k w (.agg xs) v) : ∃ vs : Array Value, v = .agg vs ∧ xs.length = vs.size ∧ ∀ i x, xs[i]? = some x → VRel k w x (vs.getD i undef) := by
  cases H with
  | frz h => cases h with | agg _ vs hl hr => exact ⟨vs, rfl, hl, fun i x hx => .frz (hr i x hx)⟩
  | agg _ vs hl hr => exact ⟨vs, rfl, hl, hr⟩
theorem VRel.tup_inv {xs} (H : VRel k w (.tup xs) v) : ∃ vs : Array Value, v = .tuple vs ∧ xs.length = vs.size ∧ ∀ i x, xs[i]? = some x → VRel k w x (vs.getD i undef) := by
  cases H with
  | frz h => cases h with | tup _ vs hl hr => exact ⟨vs, rfl, hl, fun i x hx => .frz (hr i x hx)⟩
  | tup _ vs hl hr => exact ⟨vs, rfl, hl, hr⟩
theorem VRel.fn_inv {f fs cs} (H : VRel k w (.fn f fs cs) v) : ∃ vf vc : Array Value, v = .func (.func f) vf vc ∧ fs.length = vf.size ∧ cs.length = vc.size ∧
    (∀ i x, fs[i]? = some x → VRel k w x (vf.getD i undef)) ∧ ∀ i x, cs[i]? = some x → VRel k w x (vc.getD i undef) := by
  cases H with
  | frz h => cases h with | fn _ _ _ vf vc hf hc rf rc => exact ⟨vf, vc, rfl, hf, hc, fun i x hx => .frz (rf i x hx), fun i x hx => .frz (rc i x hx)⟩
  | fn _ _ _ vf vc hf hc rf rc => exact ⟨vf, vc, rfl, hf, hc, rf, rc⟩
theorem VRel.undef (v : Value) : VRel k w .undef v := .frz (.undef v)
theorem VRel.int (kk : IntKind) (n : Int) : VRel k w (.int kk n) (.int kk n) := .frz (.int kk n)
theorem VRel.bool (b : Bool) : VRel k w (.bool b) (.bool b) := .frz (.bool b)
theorem VRel.cellsOf {x : AV} (H : VRel k w x v) (ho : (cells x).all okCell = true) : v.cells.size = (cells x).length ∧ (∀ j y, (cells x)[j]? = some y → VRel k w y (v.cells.getD j Go.undef)) ∧ ∀ u ∈ v.cells.toList, u.oneCell' = true := by
  have one : ∀ y u, VRel k w y u → okCell y = true → u.oneCell' = true := by
    intro y u h hy
    cases h with
    | frz h => cases h <;> first | rfl | cases hy
    | ref => rfl
    | ptr => rfl
    | fn => rfl
    | agg => cases hy
    | tup => cases hy
  by_cases hx : ∃ xs, x = .agg xs
  · obtain ⟨xs, rfl⟩ := hx
    obtain ⟨vs, rfl, hl, hr⟩ := H.agg_inv
    refine ⟨hl.symm, hr, fun u hu => ?_⟩
    obtain ⟨j, hj, rfl⟩ := List.getElem_of_mem hu
    have hj' : j < xs.length := by
      have : j < vs.size := by simpa [Value.cells] using hj
      omega
    have h1 := hr j xs[j] (List.getElem?_eq_getElem hj')
    have h2 := one _ _ h1 (List.all_eq_true.1 ho _ (List.getElem_mem hj'))
    have h3 : vs.getD j Go.undef = (Value.agg vs).cells.toList[j] := by
      have : j < vs.size := by omega
      simp [Value.cells, this]
    rw [← h3]; exact h2
  · have hc : cells x = [x] := by
      cases x <;> first | rfl | exact absurd ⟨_, rfl⟩ hx
    have hk : okCell x = true := by rw [hc] at ho; simpa using ho
    have h1 := one _ _ H hk
    have hv : v.cells = #[v] := by
      cases v <;> first | rfl | cases h1
    refine ⟨by rw [hv, hc]; rfl, fun j y hy => ?_, fun u hu => ?_⟩
    · rw [hc] at hy
      cases j with
      | zero => simp at hy; subst hy; rw [hv]; exact H
      | succ j => simp at hy
    · rw [hv] at hu
      simp at hu
      subst hu
      exact h1
end inv
def CellsAt (k : Kr) (w : World) (a : Addr) (cs : List AV) : Prop := ∀ j x, cs[j]? = some x → ∃ v, w.cell? (a.add j) = some v ∧ VRel k w x v
theorem CellsAt.drop {k w a cs} (h : CellsAt k w a cs) (n : Nat) : CellsAt k w (a.add n) (cs.drop n) := by
  intro j x hx
  rw [List.getElem?_drop] at hx
  rw [add_add]
  exact h _ x hx
theorem CellsAt.take {k w a cs} (h : CellsAt k w a cs) (n : Nat) : CellsAt k w a (cs.take n) := by
  intro j x hx
  rw [List.getElem?_take] at hx
  split at hx
  · exact h j x hx
  · cases hx
section
variable {k : Kr} {h : Heap} {w : World}
theorem blk_some {id v b} (hb : blk h id v = some b) : h[id]? = some (some b) ∧ b.v = v := by
  unfold blk at hb
  split at hb
  · rename_i b' hb'
    split at hb
    · rename_i hv
      simp only [Option.some.injEq] at hb
      subst hb
      exact ⟨hb', hv⟩
    · cases hb
  · cases hb
theorem HRel.blk (H : HRel k h w) {id v b} (hb : blk h id v = some b) : ∃ l, k.loc id = some l ∧ l.v = v ∧ l.s = b.s ∧ l.n = b.xs.length ∧ BRel k w l b.xs ∧ b.v = v ∧ h[id]? = some (some b) := by
  obtain ⟨h1, h2⟩ := blk_some hb
  obtain ⟨l, a1, a2, a3, a4, a5⟩ := H.live id b h1
  exact ⟨l, a1, a2.trans h2, a3, a4, a5, h2, h1⟩
theorem add_mk (b o n : Nat) : (⟨b, o, none⟩ : Addr).add n = ⟨b, o + n, none⟩ := by unfold Addr.add; split <;> simp_all
theorem BRel.cell {l xs} (B : BRel k w l xs) {i e j x} (hi : xs[i]? = some e) (hj : (cells e)[j]? = some x) : ∃ v, w.cell? ⟨l.b, l.base + i * l.s + j, none⟩ = some v ∧ VRel k w x v := by
  obtain ⟨c, el, hc, hsz, hr⟩ := B.ex
  have hx := hr i e j x hi hj
  have hil : i < xs.length := (List.getElem?_eq_some_iff.1 hi).1
  have hjl : j < l.s := by
    have h1 := (List.getElem?_eq_some_iff.1 hj).1
    rw [B.sz e (List.mem_of_getElem? hi)] at h1
    exact h1
  have hlt : l.base + i * l.s + j < c.size := by
    have : i * l.s + l.s ≤ xs.length * l.s := by
      have := Nat.mul_le_mul_right l.s (show i + 1 ≤ xs.length from hil)
      rwa [Nat.add_mul, Nat.one_mul] at this
    omega
  refine ⟨c[l.base + i * l.s + j], ?_, ?_⟩
  · simp [World.cell?, hc, hlt]
  · simpa [hlt] using hx
theorem ptr_cells (H : HRel k h w) {id v i j a b e} (hp : VRel k w (.ptr id v i j) (.pointer (some a))) (hb : blk h id v = some b) (he : b.xs[i]? = some e) :
    CellsAt k w a ((cells e).drop j) := by
  obtain ⟨l, h1, h2, h3, h4, B, _⟩ := H.blk hb
  obtain ⟨a', ha', hid, hl⟩ := hp.ptr_inv
  obtain rfl : a = a' := by simpa using ha'
  obtain rfl := (hl l h1).2 h2.symm
  intro m x hx
  rw [List.getElem?_drop] at hx
  rw [add_mk, Nat.add_assoc]
  exact B.cell he hx
theorem fad_cells {x a} (hp : VRel k w (.fad x) (.pointer (some a))) : CellsAt k w a (cells x) := by
  obtain ⟨a', ha', vs, hb, hz, hc, hr⟩ := hp.fad_inv
  obtain rfl : a = a' := by simpa using ha'
  intro j y hy
  exact ⟨vs j, hc j (List.getElem?_eq_some_iff.1 hy).1, .frz (hr j y hy)⟩
theorem sub_get {xs : List AV} {o n i : Nat} {e : AV} (h : (sub xs o n)[i]? = some e) : xs[o + i]? = some e ∧ i < n := by
  unfold sub at h
  rw [List.getElem?_take] at h
  split at h
  · rename_i hi
    rw [List.getElem?_drop] at h
    exact ⟨h, hi⟩
  · cases h
theorem okS_mem {s xs e} (h : okS s xs = true) (he : e ∈ xs) : (cells e).length = s ∧ (cells e).all okCell = true := by
  have h1 := List.all_eq_true.1 h e he
  simp only [okE, Bool.and_eq_true, beq_iff_eq] at h1
  exact h1
theorem elems_rel (H : HRel k h w) {s y ys v} (he : elems h s y = some ys) (hv : VRel k w y v) :
    ∃ a cap, v = .slice a ys.length cap ∧ okS s ys = true ∧ (∀ i e j x, ys[i]? = some e → (cells e)[j]? = some x → ∃ ad u, a = some ad ∧ w.cell? (ad.add (i * s + j)) = some u ∧ VRel k w x u) := by
  cases y with
  | nil =>
    obtain rfl : ([] : List AV) = ys := by simpa [elems] using he
    obtain rfl := hv.nil_inv
    exact ⟨none, 0, rfl, rfl, fun i e j x hi => by simp at hi⟩
  | emp c =>
    obtain rfl : ([] : List AV) = ys := by simpa [elems] using he
    obtain ⟨a, cap, rfl, _⟩ := hv.emp_inv
    exact ⟨some a, cap, rfl, rfl, fun i e j x hi => by simp at hi⟩
  | zero =>
    obtain rfl : ([] : List AV) = ys := by simpa [elems] using he
    obtain ⟨a, rfl⟩ := hv.zero_inv
    exact ⟨a, 0, rfl, rfl, fun i e j x hi => by simp at hi⟩
  | lst xs =>
    simp only [elems] at he
    split at he
    · rename_i hs
      obtain rfl : xs = ys := by simpa using he
      cases hv with
      | frz hv =>
        cases hv with
        | lst0 a cap hn => exact ⟨a, cap, rfl, hs, fun i e j x hi => by simp at hi⟩
        | lst _ a cap s' vs hl hs' hb hz hc hr =>
          refine ⟨some a, cap, rfl, hs, fun i e j x hi hj => ⟨a, vs i j, rfl, ?_, .frz (hr i j e x hi hj)⟩⟩
          have hss : s' = s := by rw [← hs' e (List.mem_of_getElem? hi)]; exact (okS_mem hs (List.mem_of_getElem? hi)).1
          rw [← hss]
          refine hc i j (List.getElem?_eq_some_iff.1 hi).1 ?_
          rw [← hs' e (List.mem_of_getElem? hi)]
          exact (List.getElem?_eq_some_iff.1 hj).1
    · cases he
  | ref id vv s' off len =>
    simp only [elems] at he
    split at he
    · rename_i hss
      subst hss
      obtain ⟨b, hb, he⟩ := Option.bind_eq_some_iff.1 he
      split at he
      · rename_i hs
        obtain rfl : sub b.xs off len = ys := by simpa using he
        obtain ⟨a, cap, rfl, hid, hlc, hl⟩ := hv.ref_inv
        obtain ⟨l, h1, h2, h3, h4, B, _⟩ := H.blk hb
        obtain ⟨g1, g2, g3⟩ := (hl l h1).2 h2.symm
        have hlen : (sub b.xs off len).length = len := by simp [sub]; omega
        refine ⟨some a, cap, by rw [hlen], hs, fun i e j x hi hj => ?_⟩
        obtain ⟨q1, q2⟩ := sub_get hi
        rcases g3 with ⟨rfl, g3⟩ | ⟨g3, _⟩
        · obtain ⟨u, hu, hr⟩ := B.cell q1 hj
          refine ⟨_, u, rfl, ?_, hr⟩
          rw [add_mk]
          rw [← hu, g1]
          congr 2
          rw [Nat.add_mul]; omega
        · omega
      · cases he
    · cases he
  | _ => simp [elems] at he
end
section
variable {P : Program} {k : Kr} {h : Heap} {w : World}
def isAggD : TypeDesc → Bool
  | .struct _ => true
  | .array _ _ => true
  | _ => false
def tySz (P : Program) (t : TypeId) : Option (Nat × Bool) :=
  match P.info? t, P.underlying t with
  | some i, some d => some (i.size, isAggD d)
  | _, _ => none
theorem tySz_some {t s ag} (ht : tySz P t = some (s, ag)) : ∃ i d, P.info? t = some i ∧ P.underlying t = some d ∧ i.size = s ∧ isAggD d = ag := by
  unfold tySz at ht
  split at ht
  · rename_i i d hi hd
    simp only [Option.some.injEq, Prod.mk.injEq] at ht
    exact ⟨i, d, hi, hd, ht.1, ht.2⟩
  · cases ht
theorem run_sizeOf {t s ag} (ht : tySz P t = some (s, ag)) (w : World) : (sizeOf t).run P w = .ok s w := by
  obtain ⟨i, d, hi, hd, hs, ha⟩ := tySz_some ht
  simp [sizeOf, typeInfo, hi, hs]
theorem run_isAgg {t s ag} (ht : tySz P t = some (s, ag)) (w : World) : (isAgg t).run P w = .ok ag w := by
  obtain ⟨i, d, hi, hd, hs, ha⟩ := tySz_some ht
  cases d <;> simp [isAgg, run_underlying hd] <;> (simp [isAggD] at ha; try exact ha) <;> (try subst ha; rfl)
theorem CellsAt.run {a : Addr} {cs : List AV} (hc : CellsAt k w a cs) : ∃ vs : Array Value, (loadCells a cs.length).run P w = .ok vs w ∧ vs.size = cs.length ∧ ∀ j x, cs[j]? = some x → VRel k w x (vs.getD j undef) := by
  have hex : ∃ f : Nat → Value, ∀ j x, cs[j]? = some x → w.cell? (a.add j) = some (f j) ∧ VRel k w x (f j) := by
    refine ⟨fun j => match w.cell? (a.add j) with | some v => v | none => undef, fun j x hx => ?_⟩
    obtain ⟨v, h1, h2⟩ := hc j x hx
    simp only [h1]
    exact ⟨trivial, h2⟩
  obtain ⟨f, hf⟩ := hex
  refine ⟨((List.range cs.length).map f).toArray, run_loadCells w a cs.length f (fun j hj => (hf j cs[j] (List.getElem?_eq_getElem hj)).1), by simp, fun j x hx => ?_⟩
  have hj := (List.getElem?_eq_some_iff.1 hx).1
  simp [hj]
  exact (hf j x hx).2
theorem run_loadVar {t s ag} (ht : tySz P t = some (s, ag)) {a : Addr} {cs : List AV} (hl : cs.length = s) (hc : CellsAt k w a cs) {x : AV} (hx : mkv ag cs = some x) :
    ∃ v, (loadVar t a).run P w = .ok v w ∧ VRel k w x v := by
  subst hl
  cases ag with
  | true =>
    obtain rfl : AV.agg cs = x := by simpa [mkv] using hx
    obtain ⟨vs, h1, h2, h3⟩ := hc.run (P := P)
    exact ⟨.agg vs, by simp [loadVar, run_isAgg ht, run_sizeOf ht, h1], .agg _ _ h2.symm h3⟩
  | false =>
    match cs, hx with
    | [y], hx =>
      obtain rfl : y = x := by simpa [mkv] using hx
      obtain ⟨v, h1, h2⟩ := hc 0 y rfl
      have : a.add 0 = a := rfl
      rw [this] at h1
      exact ⟨v, by simp [loadVar, run_isAgg ht, h1], h2⟩
theorem part_some {s ag cs off x} (hx : part s ag cs off = some x) : off + s ≤ cs.length ∧ mkv ag (sub cs off s) = some x := by
  unfold part at hx
  split at hx
  · rename_i h1; exact ⟨h1, hx⟩
  · cases hx
theorem sub_len {cs : List AV} {off s : Nat} (h : off + s ≤ cs.length) : (sub cs off s).length = s := by simp [sub]; omega
theorem load_sound (H : HRel k h w) {t s ag} (ht : tySz P t = some (s, ag)) {a : AV} {va : Value} (ha : VRel k w a va) {x : AV} (hx : loadA h s ag a = some x) :
    ∃ v, (Instr.loadAt t va).run P w = .ok v w ∧ VRel k w x v := by
  cases a with
  | ptr id v i j =>
    simp only [loadA] at hx
    obtain ⟨b, hb, hx⟩ := Option.bind_eq_some_iff.1 hx
    obtain ⟨e, he, hx⟩ := Option.bind_eq_some_iff.1 hx
    obtain ⟨h1, h2⟩ := part_some hx
    obtain ⟨ad, rfl, _⟩ := ha.ptr_inv
    have hc := (ptr_cells H ha hb he).take s
    obtain ⟨u, g1, g2⟩ := run_loadVar ht (sub_len h1) (a := ad) hc h2
    exact ⟨u, by simp [Instr.loadAt, Instr.sureAddr, g1], g2⟩
  | fad y =>
    simp only [loadA] at hx
    split at hx
    · rename_i hl
      obtain ⟨ad, rfl, _⟩ := ha.fad_inv
      obtain ⟨u, g1, g2⟩ := run_loadVar ht hl (a := ad) (fad_cells ha) hx
      exact ⟨u, by simp [Instr.loadAt, Instr.sureAddr, g1], g2⟩
    · cases hx
  | _ => simp [loadA] at hx
end
end Go.AM

end
section
set_option linter.unusedVariables false
set_option linter.unusedSimpArgs false
namespace Go.AM
open Go
section
variable {k : Kr} {h : Heap} {w : World}
def Kr.push (k : Kr) (l : Loc) : Kr := { k with n := k.n + 1, loc := fun id => if id = k.n then some l else k.loc id }
def Kr.setLoc (k : Kr) (i : Nat) (l : Loc) : Kr := { k with loc := fun id => if id = i then some l else k.loc id }
def Kr.kill (k : Kr) (S : List Nat) : Kr := { k with loc := fun id => if id ∈ S then none else k.loc id }
theorem HRel.lt (H : HRel k h w) {id l} (hl : k.loc id = some l) : id < k.n ∧ l.b < w.heap.size := by
  have h1 : ∃ b, h[id]? = some (some b) := by
    apply Classical.byContradiction
    intro hn
    have := H.dead id fun b hb => hn ⟨b, hb⟩
    rw [hl] at this
    cases this
  obtain ⟨b, hb⟩ := h1
  refine ⟨?_, ?_⟩
  · rw [H.n]; exact (List.getElem?_eq_some_iff.1 hb).1
  · obtain ⟨l', h2, _, _, _, B⟩ := H.live id b hb
    obtain rfl : l' = l := by rw [hl] at h2; simpa using h2.symm
    obtain ⟨c, e, hc, _⟩ := B.ex
    exact (Array.getElem?_eq_some_iff.1 hc).1
theorem HRel.rng_lt (H : HRel k h w) {b} (hb : k.rng b) : b < w.heap.size := by
  obtain ⟨id, l, h1, rfl⟩ := hb
  exact (H.lt h1).2
theorem push_fr (H : HRel k h w) {l : Loc} {w' : World} {o : Obj} (hw : w'.heap = w.heap.push o) (h1 : w'.os = w.os) (h2 : w'.tape = w.tape) (h3 : w'.output = w.output) (hb : l.b = w.heap.size) : Fr k w (k.push l) w' where
  os := h1
  tape := h2
  output := h3
  size := by rw [hw]; simp
  old := fun b hlt hr => by
    refine ⟨by rw [hw, Array.getElem?_push, if_neg (by omega)], ?_⟩
    rintro ⟨id, l', g1, rfl⟩
    simp only [Kr.push] at g1
    split at g1
    · simp only [Option.some.injEq] at g1; subst g1; omega
    · exact hr ⟨id, l', g1, rfl⟩
  shape := fun b c e f hc => by
    have hlt : b < w.heap.size := (Array.getElem?_eq_some_iff.1 hc).1
    exact ⟨c, e, f, by rw [hw, Array.getElem?_push, if_neg (by omega)]; exact hc, rfl⟩
  n := Nat.le_succ _
  ban := rfl
  vir := fun _ _ h => h
  vir2 := fun _ _ h => h
  loc := fun id l' hid g1 => by
    have := hid.1
    simp only [Kr.push] at g1
    rw [if_neg (by omega)] at g1
    exact ⟨l', g1, .inl rfl⟩
theorem BRel.monow {k' : Kr} {w' : World} {l : Loc} {xs : List AV} (B : BRel k w l xs) (hF : Frw k w k' w') (hb : w'.heap[l.b]? = w.heap[l.b]?) : BRel k' w' l xs := by
  obtain ⟨c, e, hc, hz, hr⟩ := B.ex
  exact ⟨⟨c, e, hb.trans hc, hz, fun i y j x h1 h2 => (hr i y j x h1 h2).monow hF⟩, B.sz⟩
theorem BRel.mono {k' : Kr} {w' : World} {l : Loc} {xs : List AV} (B : BRel k w l xs) (hF : Fr k w k' w') (hb : w'.heap[l.b]? = w.heap[l.b]?) : BRel k' w' l xs := B.monow hF.toFrw hb
theorem new_block (H : HRel k h w) {w' : World} {c : Array Value} {e : TypeId} (hw : w'.heap = w.heap.push (.cells c e (0, 0))) (h1 : w'.os = w.os) (h2 : w'.tape = w.tape) (h3 : w'.output = w.output)
    {xs : List AV} {s : Nat} (hs : ∀ y ∈ xs, (cells y).length = s) (hz : xs.length * s ≤ c.size)
    (hc : ∀ i y j x, xs[i]? = some y → (cells y)[j]? = some x → VRel k w x (c.getD (i * s + j) undef)) :
    Fr k w (k.push ⟨0, w.heap.size, 0, s, xs.length⟩) w' ∧ HRel (k.push ⟨0, w.heap.size, 0, s, xs.length⟩) (h ++ [some ⟨0, s, xs⟩]) w' := by
  have hF := push_fr H (l := ⟨0, w.heap.size, 0, s, xs.length⟩) hw h1 h2 h3 rfl
  refine ⟨hF, ?_⟩
  have hn : k.n = h.length := H.n
  have hb : ¬ k.ban w.heap.size := fun hb => Nat.lt_irrefl _ (H.banlt _ hb)
  refine ⟨by simp [Kr.push, hn], fun id b hid => ?_, fun id hid => ?_, fun i j l m hl hm hlm => ?_, fun i l hl => ?_, fun b hb => Nat.lt_of_lt_of_le (H.banlt b hb) hF.size, fun id hv => ?_⟩
  · by_cases hlt : id < h.length
    · rw [List.getElem?_append_left hlt] at hid
      obtain ⟨l, a1, a2, a3, a4, B⟩ := H.live id b hid
      refine ⟨l, by simp only [Kr.push]; rw [if_neg (by omega)]; exact a1, a2, a3, a4, B.mono hF ?_⟩
      rw [hw, Array.getElem?_push, if_neg (by have := (H.lt a1).2; omega)]
    · have : id = h.length := by
        have := (List.getElem?_eq_some_iff.1 hid).1
        simp at this; omega
      subst this
      simp at hid
      subst hid
      refine ⟨⟨0, w.heap.size, 0, s, xs.length⟩, by simp [Kr.push, hn], rfl, rfl, rfl, ⟨c, e, by simp [hw], by simpa using hz, fun i y j x g1 g2 => ?_⟩, hs⟩
      have := (hc i y j x g1 g2).mono hF
      simpa using this
  · simp only [Kr.push]
    split
    · rename_i hid'
      exact absurd (by rw [hid', hn]; simp) (hid ⟨0, s, xs⟩)
    · rename_i hid'
      refine H.dead id fun b hb => hid b ?_
      rw [List.getElem?_append_left (List.getElem?_eq_some_iff.1 hb).1]
      exact hb
  · simp only [Kr.push] at hl hm
    split at hl <;> split at hm
    · rename_i a b; rw [a, b]
    · simp only [Option.some.injEq] at hl
      subst hl
      have := (H.lt hm).2
      simp at hlm; omega
    · simp only [Option.some.injEq] at hm
      subst hm
      have := (H.lt hl).2
      simp at hlm; omega
    · exact H.inj i j l m hl hm hlm
  · simp only [Kr.push] at hl
    split at hl
    · simp only [Option.some.injEq] at hl; subst hl; exact hb
    · exact H.nob i l hl
  · obtain ⟨v1, v2⟩ := H.virlt id hv
    refine ⟨Nat.lt_succ_of_lt v1, ?_⟩
    simp only [Kr.push]
    rw [if_neg (by omega)]
    exact v2
theorem push_ok (H : HRel k h w) (l : Loc) : (k.push l).ok h.length := by
  refine ⟨by simp [Kr.push, H.n], fun hv => ?_⟩
  have := (H.virlt _ hv).1
  have := H.n
  omega
theorem re_block (H : HRel k h w) {id : Nat} {l l' : Loc} {b : Blk} (hb : h[id]? = some (some b)) (hl : k.loc id = some l) {w' : World}
    (hF : Fr k w (k.setLoc id l') w') (hold : ∀ i m, i ≠ id → k.loc i = some m → w'.heap[m.b]? = w.heap[m.b]?) (hnb : ∀ i m, i ≠ id → k.loc i = some m → m.b ≠ l'.b) (hban : ¬ k.ban l'.b)
    {xs : List AV} {v s : Nat} (h1 : l'.v = v) (h2 : l'.s = s) (h3 : l'.n = xs.length) (B : BRel (k.setLoc id l') w' l' xs) :
    HRel (k.setLoc id l') (h.set id (some ⟨v, s, xs⟩)) w' := by
  have hid : id < h.length := (List.getElem?_eq_some_iff.1 hb).1
  refine ⟨by simp [Kr.setLoc, H.n], fun i b' hi => ?_, fun i hi => ?_, fun i j l1 l2 g1 g2 g3 => ?_, fun i l1 g1 => ?_, fun b hb => Nat.lt_of_lt_of_le (H.banlt b hb) hF.size, fun i hv => ?_⟩
  · by_cases hne : i = id
    · subst hne
      rw [List.getElem?_set_self hid] at hi
      simp only [Option.some.injEq] at hi
      subst hi
      exact ⟨l', by simp [Kr.setLoc], h1, h2, h3, B⟩
    · rw [List.getElem?_set_ne (fun e => hne e.symm)] at hi
      obtain ⟨m, a1, a2, a3, a4, B'⟩ := H.live i b' hi
      exact ⟨m, by simp [Kr.setLoc, hne, a1], a2, a3, a4, B'.mono hF (hold i m hne a1)⟩
  · by_cases hne : i = id
    · subst hne
      exact absurd (List.getElem?_set_self hid) (hi _)
    · simp only [Kr.setLoc, if_neg hne]
      exact H.dead i fun b' hb' => hi b' (by rw [List.getElem?_set_ne (fun e => hne e.symm)]; exact hb')
  · simp only [Kr.setLoc] at g1 g2
    split at g1 <;> split at g2
    · rename_i a b; rw [a, b]
    · rename_i a b
      simp only [Option.some.injEq] at g1
      subst g1
      exact absurd g3.symm (hnb j l2 b g2)
    · rename_i a b
      simp only [Option.some.injEq] at g2
      subst g2
      exact absurd g3 (hnb i l1 a g1)
    · exact H.inj i j l1 l2 g1 g2 g3
  · simp only [Kr.setLoc] at g1
    split at g1
    · simp only [Option.some.injEq] at g1; subst g1; exact hban
    · exact H.nob i l1 g1
  · obtain ⟨v1, v2⟩ := H.virlt i hv
    refine ⟨v1, ?_⟩
    simp only [Kr.setLoc]
    rw [if_neg]
    · exact v2
    · intro e
      subst e
      rw [hl] at v2
      cases v2
theorem set_self_loc {id : Nat} {l : Loc} (hl : k.loc id = some l) : k.setLoc id l = k := by
  unfold Kr.setLoc
  cases k
  simp only [Kr.mk.injEq, true_and, and_true]
  funext i
  split
  · rename_i hi; rw [hi]; exact hl.symm
  · rfl
theorem setCells_heap (b : Nat) (e : TypeId) (f : Nat × Nat) : ∀ (vs : List Value) (o : Nat) (w : World) (c : Array Value), w.heap[b]? = some (.cells c e f) → o + vs.length ≤ c.size →
    ∃ c' : Array Value, (w.setCells b o vs).heap[b]? = some (.cells c' e f) ∧ c'.size = c.size ∧ (∀ j u, vs[j]? = some u → c'.getD (o + j) undef = u) ∧ (∀ j, (j < o ∨ o + vs.length ≤ j) → c'.getD j undef = c.getD j undef) ∧
      (∀ b', b' ≠ b → (w.setCells b o vs).heap[b']? = w.heap[b']?) ∧ (w.setCells b o vs).heap.size = w.heap.size ∧ (w.setCells b o vs).os = w.os ∧ (w.setCells b o vs).tape = w.tape ∧ (w.setCells b o vs).output = w.output := by
  intro vs
  induction vs with
  | nil => intro o w c hc hz; exact ⟨c, hc, rfl, fun j u hj => by simp at hj, fun j _ => rfl, fun _ _ => rfl, rfl, rfl, rfl, rfl⟩
  | cons v r ih =>
    intro o w c hc hz
    simp only [List.length_cons] at hz
    have hblk : b < w.heap.size := (Array.getElem?_eq_some_iff.1 hc).1
    have h1 : (w.setCell ⟨b, o, none⟩ v).heap[b]? = some (.cells (c.setIfInBounds o v) e f) := by
      simp [World.setCell, Array.getElem?_modify, hc]
    obtain ⟨c', g1, g2, g3, g4, g5, g6, g7, g8, g9⟩ := ih (o + 1) (w.setCell ⟨b, o, none⟩ v) _ h1 (by simp; omega)
    have hset : w.setCells b o (v :: r) = (w.setCell ⟨b, o, none⟩ v).setCells b (o + 1) r := rfl
    rw [hset]
    refine ⟨c', g1, by rw [g2]; simp, fun j u hj => ?_, fun j hj => ?_, fun b' hb' => ?_, ?_, g7, g8, g9⟩
    · cases j with
      | zero =>
        simp at hj
        subst hj
        rw [g4 (o + 0) (.inl (by omega))]
        have : o < c.size := by omega
        simp [this]
      | succ j =>
        simp at hj
        have := g3 j u hj
        rwa [show o + 1 + j = o + (j + 1) by omega] at this
    · simp only [List.length_cons] at hj
      rw [g4 j (by omega)]
      have : o ≠ j := by omega
      simp [Array.getElem?_setIfInBounds_ne this]
    · rw [g5 b' hb']
      simp only [World.setCell, Array.getElem?_modify]
      rw [if_neg (by simpa using fun h => hb' h.symm)]
    · rw [g6]; simp [World.setCell]
theorem other_block (H : HRel k h w) {id : Nat} {l : Loc} (hl : k.loc id = some l) (i : Nat) (m : Loc) (hne : i ≠ id) (hm : k.loc i = some m) : m.b ≠ l.b :=
  fun e => hne (H.inj i id m l hm hl e)
theorem write_block (H : HRel k h w) {id : Nat} {l : Loc} {b : Blk} (hb : h[id]? = some (some b)) (hl : k.loc id = some l) (hv : l.v = b.v) (hs : l.s = b.s) {w' : World}
    {c c' : Array Value} {e : TypeId} (hc : w.heap[l.b]? = some (.cells c e (0, 0))) (hc' : w'.heap[l.b]? = some (.cells c' e (0, 0))) (hz : c'.size = c.size)
    (ho : ∀ b', b' ≠ l.b → w'.heap[b']? = w.heap[b']?) (hsz : w'.heap.size = w.heap.size) (h1 : w'.os = w.os) (h2 : w'.tape = w.tape) (h3 : w'.output = w.output)
    {xs : List AV} (hn : xs.length = l.n) (hn2 : l.n = b.xs.length) (hsx : ∀ y ∈ xs, (cells y).length = l.s) (hfit : l.base + xs.length * l.s ≤ c.size)
    (hr : ∀ i y j x, xs[i]? = some y → (cells y)[j]? = some x → VRel k w x (c'.getD (l.base + i * l.s + j) undef)) :
    Fr k w k w' ∧ HRel k (h.set id (some { b with xs := xs })) w' := by
  have hF : Fr k w k w' := by
    refine ⟨⟨h1, h2, h3, by omega, fun b' hlt hrg => ⟨ho b' fun e => hrg ⟨id, l, hl, e.symm⟩, hrg⟩, fun b' c0 e0 f0 hq => ?_, Nat.le_refl _, rfl, fun _ _ h => h, fun i l' _ hi => ⟨l', hi, .inl rfl⟩⟩, fun _ _ h => h⟩
    by_cases hbb : b' = l.b
    · subst hbb
      rw [hc] at hq
      simp only [Option.some.injEq, Obj.cells.injEq] at hq
      obtain ⟨rfl, rfl, rfl⟩ := hq
      exact ⟨c', e, (0, 0), hc', hz⟩
    · exact ⟨c0, e0, f0, by rw [ho b' hbb]; exact hq, rfl⟩
  refine ⟨hF, ?_⟩
  have hself : k.setLoc id l = k := set_self_loc hl
  have := re_block (l' := l) (w' := w') (xs := xs) (v := b.v) (s := b.s) H hb hl (by rw [hself]; exact hF) (fun i m hne hm => ho _ (other_block H hl i m hne hm)) (other_block H hl) (H.nob id l hl) hv hs hn.symm
    (by rw [hself]; exact ⟨⟨c', e, hc', by rw [hz]; exact hfit, fun i y j x g1 g2 => (hr i y j x g1 g2).mono hF⟩, hsx⟩)
  rw [hself] at this
  exact this
theorem shut_cells {e : AV} {cs : List AV} {e' : AV} (h : shut e cs = some e') : cells e' = cs := by
  unfold shut at h
  split at h
  · simp only [Option.some.injEq] at h; subst h; rfl
  · rename_i y hne
    split at h
    · rename_i hy
      simp only [Option.some.injEq] at h
      subst h
      cases y <;> first | rfl | cases hy
    · cases h
  · cases h
theorem okE_spec {s x} (h : okE s x = true) : (cells x).length = s ∧ (cells x).all okCell = true := by
  simpa only [okE, Bool.and_eq_true, beq_iff_eq] using h
theorem getElem?_mid {α : Type} (A B C : List α) (j : Nat) : (A ++ B ++ C)[j]? = if j < A.length then A[j]? else if j < A.length + B.length then B[j - A.length]? else C[j - A.length - B.length]? := by
  by_cases h1 : j < A.length
  · rw [if_pos h1, List.append_assoc, List.getElem?_append_left h1]
  · rw [if_neg h1]
    by_cases h2 : j < A.length + B.length
    · rw [if_pos h2, List.getElem?_append_left (by simp; omega), List.getElem?_append_right (by omega)]
    · rw [if_neg h2, List.getElem?_append_right (by simp; omega)]
      congr 1
      simp; omega
theorem store_sound {P : Program} (H : HRel k h w) {t : TypeId} {s : Nat} {ag : Bool} (ht : tySz P t = some (s, ag)) {a x : AV} {va vx : Value} (ha : VRel k w a va) (hx : VRel k w x vx) {h' : Heap} (hs : storeA h s a x = some h') :
    ∃ w', (Instr.storeAt t va vx).run P w = .ok () w' ∧ Fr k w k w' ∧ HRel k h' w' := by
  cases a with
  | ptr id v i j =>
    simp only [storeA] at hs
    obtain ⟨b, hb, hs⟩ := Option.bind_eq_some_iff.1 hs
    obtain ⟨y, hy, hs⟩ := Option.bind_eq_some_iff.1 hs
    split at hs
    · rename_i hcond
      obtain ⟨hok, hjs⟩ := hcond
      obtain ⟨e', he', rfl⟩ := Option.map_eq_some_iff.1 hs
      obtain ⟨l, g1, g2, g3, g4, B, g5, g6⟩ := H.blk hb
      obtain ⟨ad, rfl, _, hl⟩ := ha.ptr_inv
      obtain rfl := (hl l g1).2 g2.symm
      obtain ⟨hlen, hall⟩ := okE_spec hok
      obtain ⟨q1, q2, q3⟩ := hx.cellsOf hall
      obtain ⟨c, e, hc, hz, hr⟩ := B.ex
      have hil : i < b.xs.length := (List.getElem?_eq_some_iff.1 hy).1
      have hys := B.sz y (List.mem_of_getElem? hy)
      have hspan : i * l.s + l.s ≤ b.xs.length * l.s := by
        have := Nat.mul_le_mul_right l.s (show i + 1 ≤ b.xs.length from hil)
        rwa [Nat.add_mul, Nat.one_mul] at this
      have hvl : vx.cells.toList.length = s := by rw [Array.length_toList, q1, hlen]
      obtain ⟨c', p1, p2, p3, p4, p5, p6, p7, p8, p9⟩ := setCells_heap l.b e (0, 0) vx.cells.toList (l.base + i * l.s + j) w c hc (by rw [hvl]; omega)
      refine ⟨w.setCells l.b (l.base + i * l.s + j) vx.cells.toList, ?_, ?_⟩
      · have hst := run_storeCells_cells (P := P) l.b (l.base + i * l.s + j) vx.cells.toList 0 w (fun m hm => by
            have : l.base + i * l.s + j + m < c.size := by omega
            simp [World.cell?, hc, this]) (fun m hm => by simp [World.frozen?, hc]) q3
        have hsz : vx.cells.size = s := by rw [q1, hlen]
        simp only [Nat.add_zero] at hst
        simp [Instr.storeAt, Instr.sureAddr, storeVar, run_sizeOf ht, hsz, hst]
      · have hcl := shut_cells he'
        have hlen' : (cells e').length = l.s := by rw [hcl]; simp; omega
        refine write_block H g6 g1 (by rw [g2, g5]) g3 hc p1 p2 p5 p6 p7 p8 p9 (by simp [g4]) g4 (fun y' hy' => ?_) (by simpa using hz) (fun i' y' j' x' g7 g8 => ?_)
        · rcases List.mem_or_eq_of_mem_set hy' with h1 | rfl
          · exact B.sz y' h1
          · exact hlen'
        · by_cases hii : i' = i
          · subst hii
            rw [List.getElem?_set_self hil] at g7
            simp only [Option.some.injEq] at g7
            subst g7
            rw [hcl, getElem?_mid] at g8
            have hjt : (List.take j (cells y)).length = j := by simp; omega
            rw [hjt] at g8
            split at g8
            · rename_i hj1
              rw [List.getElem?_take, if_pos hj1] at g8
              rw [p4 _ (.inl (by omega))]
              exact hr i' y j' x' hy g8
            · rename_i hj1
              split at g8
              · rename_i hj2
                have h1 := q2 _ _ g8
                have h2 : vx.cells.toList[j' - j]? = some (vx.cells.getD (j' - j) undef) := by
                  have : j' - j < vx.cells.size := by omega
                  simp [this]
                have h3 := p3 _ _ h2
                rw [show l.base + i' * l.s + j + (j' - j) = l.base + i' * l.s + j' by omega] at h3
                rw [h3]
                exact h1
              · rename_i hj2
                rw [List.getElem?_drop] at g8
                rw [p4 _ (.inr (by omega))]
                refine hr i' y j' x' hy ?_
                rw [← g8]
                congr 1
                omega
          · rw [List.getElem?_set_ne (fun e => hii e.symm)] at g7
            have hj' : j' < l.s := by
              have h1 := (List.getElem?_eq_some_iff.1 g8).1
              rw [B.sz y' (List.mem_of_getElem? g7)] at h1
              exact h1
            rw [p4 _ ?_]
            · exact hr i' y' j' x' g7 g8
            · rw [hvl]
              rcases Nat.lt_or_gt_of_ne hii with hlt | hlt
              · left
                have := Nat.mul_le_mul_right l.s (show i' + 1 ≤ i from hlt)
                rw [Nat.add_mul, Nat.one_mul] at this
                omega
              · right
                have := Nat.mul_le_mul_right l.s (show i + 1 ≤ i' from hlt)
                rw [Nat.add_mul, Nat.one_mul] at this
                omega
    · cases hs
  | _ => simp [storeA] at hs
end
end Go.AM

end
section
set_option linter.unusedVariables false
set_option linter.unusedSimpArgs false
namespace Go.AM
open Go
theorem flat_len {s : Nat} : ∀ {ys : List AV}, (∀ e ∈ ys, (cells e).length = s) → (ys.flatMap cells).length = ys.length * s := by
  intro ys
  induction ys with
  | nil => intro _; simp
  | cons y ys ih =>
    intro h
    rw [List.flatMap_cons, List.length_append, ih fun e he => h e (List.mem_cons_of_mem _ he), h y (List.mem_cons_self ..), List.length_cons, Nat.add_mul, Nat.one_mul, Nat.add_comm]
theorem flat_get {s : Nat} : ∀ {ys : List AV} {q : Nat} {x : AV}, (∀ e ∈ ys, (cells e).length = s) → (ys.flatMap cells)[q]? = some x → ∃ i e j, ys[i]? = some e ∧ (cells e)[j]? = some x ∧ q = i * s + j := by
  intro ys
  induction ys with
  | nil => intro q x _ h; simp at h
  | cons y ys ih =>
    intro q x hs h
    rw [List.flatMap_cons] at h
    have hy := hs y (List.mem_cons_self ..)
    by_cases hq : q < (cells y).length
    · rw [List.getElem?_append_left hq] at h
      exact ⟨0, y, q, rfl, h, by omega⟩
    · rw [List.getElem?_append_right (by omega)] at h
      obtain ⟨i, e, j, h1, h2, h3⟩ := ih (fun e he => hs e (List.mem_cons_of_mem _ he)) h
      exact ⟨i + 1, e, j, by simpa using h1, h2, by rw [Nat.add_mul]; omega⟩
theorem flat_at {s : Nat} : ∀ {ys : List AV} {i : Nat} {e : AV} {j : Nat} {x : AV}, (∀ e ∈ ys, (cells e).length = s) → ys[i]? = some e → (cells e)[j]? = some x → (ys.flatMap cells)[i * s + j]? = some x := by
  intro ys
  induction ys with
  | nil => intro i e j x _ h; simp at h
  | cons y ys ih =>
    intro i e j x hs h hj
    rw [List.flatMap_cons]
    have hy := hs y (List.mem_cons_self ..)
    cases i with
    | zero =>
      simp at h
      subst h
      rw [List.getElem?_append_left (by have := (List.getElem?_eq_some_iff.1 hj).1; omega)]
      simpa using hj
    | succ i =>
      have := ih (fun e he => hs e (List.mem_cons_of_mem _ he)) (by simpa using h) hj
      rw [List.getElem?_append_right (by rw [Nat.add_mul]; omega), ← this]
      congr 1
      rw [Nat.add_mul]; omega
theorem VRel.one {k : Kr} {w : World} {y : AV} {u : Value} (h : VRel k w y u) (hy : okCell y = true) : u.oneCell' = true := by
  cases h with
  | frz h => cases h <;> first | rfl | cases hy
  | ref => rfl
  | ptr => rfl
  | fn => rfl
  | agg => cases hy
  | tup => cases hy
structure Elems (k : Kr) (w : World) (s : Nat) (ys : List AV) (vs : Array Value) : Prop where
  size : vs.size = ys.length * s
  rel : ∀ i e j x, ys[i]? = some e → (cells e)[j]? = some x → VRel k w x (vs.getD (i * s + j) undef)
  one : ∀ u ∈ vs.toList, u.oneCell' = true
section
variable {P : Program} {k : Kr} {h : Heap} {w : World}
theorem first_of {s : Nat} {ys : List AV} {a : Option Addr} {len cap : Nat} (hs' : ∀ e ∈ ys, (cells e).length = s) (hs2 : ∀ e ∈ ys, (cells e).all okCell = true)
    (hr : ∀ i e j x, ys[i]? = some e → (cells e)[j]? = some x → ∃ ad u, a = some ad ∧ w.cell? (ad.add (i * s + j)) = some u ∧ VRel k w x u) :
    ∃ vs, (∀ w' : World, w'.heap = w.heap → (Builtin.firstCells s ys.length (.slice a len cap)).run P w' = .ok vs w') ∧ Elems k w s ys vs := by
  by_cases hnil : ys.length * s = 0
  · refine ⟨#[], fun w' _ => ?_, ⟨by simp [hnil], fun i e j x hi hj => ?_, fun u hu => by simp at hu⟩⟩
    · cases a with
      | none => simp [Builtin.firstCells]
      | some a => simp [Builtin.firstCells, hnil, loadCells, loadCellsFrom]
    · exfalso
      have h1 := (List.getElem?_eq_some_iff.1 hi).1
      have h2 := (List.getElem?_eq_some_iff.1 hj).1
      rw [hs' e (List.mem_of_getElem? hi)] at h2
      have := Nat.mul_pos (show 0 < ys.length by omega) (show 0 < s by omega)
      omega
  · obtain ⟨ad, rfl⟩ : ∃ ad, a = some ad := by
      have h0 : 0 < ys.length := Nat.pos_of_ne_zero fun h => hnil (by rw [h]; simp)
      have h1 : 0 < s := Nat.pos_of_ne_zero fun h => hnil (by rw [h]; simp)
      have h2 : 0 < (cells ys[0]).length := by rw [hs' _ (List.getElem_mem h0)]; exact h1
      obtain ⟨ad, _, hh, _⟩ := hr 0 ys[0] 0 (cells ys[0])[0] (List.getElem?_eq_getElem h0) (List.getElem?_eq_getElem h2)
      exact ⟨ad, hh⟩
    have hca : CellsAt k w ad (ys.flatMap cells) := by
      intro q x hq
      obtain ⟨i, e, j, h1, h2, rfl⟩ := flat_get hs' hq
      obtain ⟨ad', u, h3, h4, h5⟩ := hr i e j x h1 h2
      obtain rfl : ad = ad' := by simpa using h3
      exact ⟨u, h4, h5⟩
    have hlen := flat_len hs'
    have hex : ∃ f : Nat → Value, ∀ j x, (ys.flatMap cells)[j]? = some x → w.cell? (ad.add j) = some (f j) ∧ VRel k w x (f j) := by
      refine ⟨fun j => match w.cell? (ad.add j) with | some v => v | none => undef, fun j x hx => ?_⟩
      obtain ⟨v, h1, h2⟩ := hca j x hx
      simp only [h1]
      exact ⟨trivial, h2⟩
    obtain ⟨f, hf⟩ := hex
    refine ⟨((List.range (ys.length * s)).map f).toArray, fun w' hw => ?_, ⟨by simp, fun i e j x hi hj => ?_, fun u hu => ?_⟩⟩
    · simp only [Builtin.firstCells]
      refine run_loadCells w' ad _ f fun j hj => ?_
      rw [cell_of_block (w := w) (by rw [hw])]
      rw [← hlen] at hj
      exact (hf j _ (List.getElem?_eq_getElem hj)).1
    · have h1 := flat_at hs' hi hj
      have h2 := (List.getElem?_eq_some_iff.1 h1).1
      rw [hlen] at h2
      simp [h2]
      exact (hf _ x h1).2
    · simp at hu
      obtain ⟨j, hj, rfl⟩ := hu
      rw [← hlen] at hj
      have h1 := hf j _ (List.getElem?_eq_getElem hj)
      refine h1.2.one ?_
      obtain ⟨i, e, j', h3, h4, _⟩ := flat_get hs' (List.getElem?_eq_getElem hj)
      exact List.all_eq_true.1 (hs2 e (List.mem_of_getElem? h3)) _ (List.mem_of_getElem? h4)
theorem firstCells_sound (H : HRel k h w) {s y ys v} (he : elems h s y = some ys) (hv : VRel k w y v) :
    ∃ a cap vs, v = .slice a ys.length cap ∧ (∀ w' : World, w'.heap = w.heap → (Builtin.firstCells s ys.length v).run P w' = .ok vs w') ∧ Elems k w s ys vs ∧ okS s ys = true := by
  obtain ⟨a, cap, rfl, hs, hr⟩ := elems_rel H he hv
  obtain ⟨vs, h1, h2⟩ := first_of (P := P) (len := ys.length) (cap := cap) (fun e he => (okS_mem hs he).1) (fun e he => (okS_mem hs he).2) hr
  exact ⟨a, cap, vs, rfl, h1, h2, hs⟩
theorem run_app {t xT ty e e2 : TypeId} {i : TypeInfo} {z : Value} (ht : P.underlying t = some (.slice e)) (hx : P.underlying xT = some (.slice e2)) (hi : P.info? e = some i) (hz : i.zero = some z)
    {base : Option Addr} {sLen sCap : Nat} {xa : Option Addr} {m xc : Nat} {news : Array Value} (hnews : ∀ w' : World, w'.heap = w.heap → (Builtin.firstCells i.size m (.slice xa m xc)).run P w' = .ok news w') :
    (∀ w' : World, sLen + m ≤ sCap → (∀ a, base = some a → (storeCells (a.add (sLen * i.size)) news.toList).run P w = .ok () w') → (base = none → w' = w) →
      (Builtin.append_ #[t, xT] ty #[.slice base sLen sCap, .slice xa m xc]).run P w = .ok (.slice base (sLen + m) sCap) w') ∧
    (∀ old : Array Value, sCap < sLen + m → (Builtin.firstCells i.size sLen (.slice base sLen sCap)).run P w.drew = .ok old w.drew → ((sLen + m : Nat) : Int) ≤ 9223372036854775807 → (sLen + m) * i.bytes ≤ 140737488355328 →
      (Builtin.append_ #[t, xT] ty #[.slice base sLen sCap, .slice xa m xc]).run P w =
        .ok (.slice (some ⟨w.heap.size, 0, none⟩) (sLen + m) (grownCap w (sLen + m) sCap e))
          (w.drew.alloc (.cells (old ++ news ++ Builtin.zeroCells z.cells (grownCap w (sLen + m) sCap e - (sLen + m))) e))) := by
  constructor
  · intro w' hle hst hnone
    cases base with
    | none =>
      obtain rfl := hnone rfl
      simp [Builtin.append_, run_underlying ht, run_underlying hx, sizeOf, typeInfo, hi, Builtin.lenOf, hle, hnews]
    | some a =>
      have hst' := hst a rfl
      simp [Builtin.append_, run_underlying ht, run_underlying hx, sizeOf, typeInfo, hi, Builtin.lenOf, hle, hnews, hst']
  · intro old hgt hold h63 hb
    have hn : ¬ (sLen + m ≤ sCap) := by omega
    have h63' : ¬ (9223372036854775807 < ((sLen : Int) + (m : Int))) := by omega
    have hfit := growslice_fits (need := sLen + m) (old := sCap) (bytes := i.bytes) (by omega) hb
    have h48' : ¬ (281474976710656 < Builtin.nextslicecap (sLen + m) sCap * i.bytes) := by omega
    have hnews' := hnews w.drew rfl
    simp [Builtin.append_, run_underlying ht, run_underlying hx, sizeOf, typeInfo, zeroValue, hi, hz, Builtin.lenOf, hn, h63', h48', Question.forced, hnews', hold, newRow, grownCap]
theorem cellsAt_run {ad : Addr} {cs : List AV} (hca : CellsAt k w ad cs) : ∃ vs : Array Value, (∀ w' : World, w'.heap = w.heap → (loadCells ad cs.length).run P w' = .ok vs w') ∧ vs.size = cs.length ∧
    ∀ j x, cs[j]? = some x → VRel k w x (vs.getD j undef) := by
  have hex : ∃ f : Nat → Value, ∀ j x, cs[j]? = some x → w.cell? (ad.add j) = some (f j) ∧ VRel k w x (f j) := by
    refine ⟨fun j => match w.cell? (ad.add j) with | some v => v | none => undef, fun j x hx => ?_⟩
    obtain ⟨v, h1, h2⟩ := hca j x hx
    simp only [h1]
    exact ⟨trivial, h2⟩
  obtain ⟨f, hf⟩ := hex
  refine ⟨((List.range cs.length).map f).toArray, fun w' hw => ?_, by simp, fun j x hx => ?_⟩
  · refine run_loadCells w' ad _ f fun j hj => ?_
    rw [cell_of_block (w := w) (by rw [hw])]
    exact (hf j _ (List.getElem?_eq_getElem hj)).1
  · have h2 := (List.getElem?_eq_some_iff.1 hx).1
    simp [h2]
    exact (hf j x hx).2
theorem ref_cells (H : HRel k h w) {id v s off len a cap b} (hv : VRel k w (.ref id v s off len) (.slice (some a) len cap)) (hb : blk h id v = some b) (hbs : b.s = s) :
    ∃ vs : Array Value, (∀ w' : World, w'.heap = w.heap → (Builtin.firstCells s len (.slice (some a) len cap)).run P w' = .ok vs w') ∧ vs.size = len * s ∧ (sub b.xs off len).length = len ∧ (∀ e ∈ sub b.xs off len, (cells e).length = s) ∧
      ∀ i e j x, (sub b.xs off len)[i]? = some e → (cells e)[j]? = some x → VRel k w x (vs.getD (i * s + j) undef) := by
  obtain ⟨a', cap', hva, hid, hlc, hl⟩ := hv.ref_inv
  obtain ⟨l, h1, h2, h3, h4, B, _⟩ := H.blk hb
  obtain ⟨g1, g2, g3⟩ := (hl l h1).2 h2.symm
  simp only [Value.slice.injEq, Option.some.injEq, true_and] at hva
  obtain ⟨rfl, rfl⟩ := hva
  have hlen : (sub b.xs off len).length = len := by simp [sub]; omega
  have hs' : ∀ e ∈ sub b.xs off len, (cells e).length = s := fun e he => by
    rw [B.sz e (List.mem_of_mem_drop (List.mem_of_mem_take he)), g1]
  rcases g3 with ⟨rfl, g3⟩ | ⟨rfl, rfl⟩
  · have hca : CellsAt k w ⟨l.b, l.base + off * s, none⟩ ((sub b.xs off len).flatMap cells) := by
      intro q x hq
      obtain ⟨i, e, j, h1, h2, rfl⟩ := flat_get hs' hq
      obtain ⟨q1, q2⟩ := sub_get h1
      obtain ⟨u, hu, hr⟩ := B.cell q1 h2
      refine ⟨u, ?_, hr⟩
      rw [add_mk, ← hu, g1]
      congr 2
      rw [Nat.add_mul]; omega
    obtain ⟨vs, p1, p2, p3⟩ := cellsAt_run (P := P) hca
    rw [flat_len hs', hlen] at p1 p2
    exact ⟨vs, fun w' hw => by simpa [Builtin.firstCells] using p1 w' hw, p2, hlen, hs', fun i e j x hi hj => p3 _ x (flat_at hs' hi hj)⟩
  · refine ⟨#[], fun w' _ => by simp [Builtin.firstCells, loadCells, loadCellsFrom], by simp, hlen, hs', fun i e j x hi hj => ?_⟩
    have := (List.getElem?_eq_some_iff.1 hi).1
    omega
theorem getD_append3 {A B C : Array Value} {q : Nat} : (A ++ B ++ C).getD q undef = if q < A.size then A.getD q undef else if q < A.size + B.size then B.getD (q - A.size) undef else C.getD (q - A.size - B.size) undef := by
  simp only [Array.getD_eq_getD_getElem?]
  by_cases h1 : q < A.size
  · rw [if_pos h1, Array.append_assoc, Array.getElem?_append_left h1]
  · rw [if_neg h1]
    by_cases h2 : q < A.size + B.size
    · rw [if_pos h2, Array.getElem?_append_left (by simp; omega), Array.getElem?_append_right (by omega)]
    · rw [if_neg h2, Array.getElem?_append_right (by simp; omega)]
      congr 2
      simp; omega
theorem mul_lt_span {i n s j : Nat} (hi : i < n) (hj : j < s) : i * s + j < n * s := by
  have := Nat.mul_le_mul_right s (show i + 1 ≤ n from hi)
  rw [Nat.add_mul, Nat.one_mul] at this
  omega
theorem elems_append {s : Nat} {xs ys : List AV} {old news rest : Array Value} (h1 : old.size = xs.length * s) (hsx : ∀ e ∈ xs, (cells e).length = s) (hr : ∀ i e j x, xs[i]? = some e → (cells e)[j]? = some x → VRel k w x (old.getD (i * s + j) undef))
    (E : Elems k w s ys news) (hsy : ∀ e ∈ ys, (cells e).length = s) : ∀ i e j x, (xs ++ ys)[i]? = some e → (cells e)[j]? = some x → VRel k w x ((old ++ news ++ rest).getD (i * s + j) undef) := by
  intro i e j x hi hj
  by_cases hlt : i < xs.length
  · rw [List.getElem?_append_left hlt] at hi
    have hjs : j < s := by rw [← hsx e (List.mem_of_getElem? hi)]; exact (List.getElem?_eq_some_iff.1 hj).1
    rw [getD_append3, if_pos (by rw [h1]; exact mul_lt_span hlt hjs)]
    exact hr i e j x hi hj
  · rw [List.getElem?_append_right (by omega)] at hi
    have hjs : j < s := by rw [← hsy e (List.mem_of_getElem? hi)]; exact (List.getElem?_eq_some_iff.1 hj).1
    have hi2 := (List.getElem?_eq_some_iff.1 hi).1
    have hsub : i * s + j = xs.length * s + ((i - xs.length) * s + j) := by
      have : i = xs.length + (i - xs.length) := by omega
      conv => lhs; rw [this, Nat.add_mul]
      omega
    have hb := mul_lt_span hi2 hjs
    rw [getD_append3, if_neg (by rw [h1]; omega), if_pos (by rw [h1, E.size]; omega), h1, hsub, Nat.add_sub_cancel_left]
    exact E.rel _ e j x hi hj
theorem grown_size {z : Value} {s need cap : Nat} {old news : Array Value} (hz : z.cells.size = s) (hle : need ≤ cap) (h : old.size + news.size = need * s) : (old ++ news ++ Builtin.zeroCells z.cells (cap - need)).size = cap * s := by
  simp only [Array.size_append, size_zeroCells, hz, h]
  rw [← Nat.add_mul]
  congr 1; omega
theorem setLoc_fr (H : HRel k h w) {id : Nat} {l l' : Loc} (hl : k.loc id = some l) (hv : l.v < l'.v) {w' : World} (h1 : w'.os = w.os) (h2 : w'.tape = w.tape) (h3 : w'.output = w.output) (hsz : w.heap.size ≤ w'.heap.size)
    (hb : l'.b = l.b ∨ w.heap.size ≤ l'.b) (ho : ∀ b', b' < w.heap.size → b' ≠ l.b → w'.heap[b']? = w.heap[b']?)
    (hs : ∀ (c : Array Value) (e : TypeId) (f : Nat × Nat), w.heap[l.b]? = some (Obj.cells c e f) → ∃ (c' : Array Value) (e' : TypeId) (f' : Nat × Nat), w'.heap[l.b]? = some (Obj.cells c' e' f') ∧ c'.size = c.size) : Fr k w (k.setLoc id l') w' where
  os := h1
  tape := h2
  output := h3
  size := hsz
  old := fun b hlt hr => by
    refine ⟨ho b hlt fun e => hr ⟨id, l, hl, e.symm⟩, ?_⟩
    rintro ⟨i, m, g1, rfl⟩
    simp only [Kr.setLoc] at g1
    split at g1
    · simp only [Option.some.injEq] at g1
      subst g1
      rcases hb with hb | hb
      · exact hr ⟨id, l, hl, hb.symm⟩
      · omega
    · exact hr ⟨i, m, g1, rfl⟩
  shape := fun b c e f hq => by
    by_cases hbb : b = l.b
    · subst hbb; exact hs c e f hq
    · exact ⟨c, e, f, by rw [ho b (Array.getElem?_eq_some_iff.1 hq).1 hbb]; exact hq, rfl⟩
  n := Nat.le_refl _
  ban := rfl
  vir := fun _ _ h => h
  vir2 := fun _ _ h => h
  loc := fun i l2 _ g1 => by
    simp only [Kr.setLoc] at g1
    split at g1
    · rename_i hi
      simp only [Option.some.injEq] at g1
      subst g1
      subst hi
      exact ⟨l, hl, .inr hv⟩
    · exact ⟨l2, g1, .inl rfl⟩
theorem alloc_at (w : World) (o : Obj) : (w.drew.alloc o).heap[w.heap.size]? = some o := by
  show (w.heap.push o)[w.heap.size]? = _
  simp
theorem alloc_old (w : World) (o : Obj) {b : Nat} (hb : b < w.heap.size) : (w.drew.alloc o).heap[b]? = w.heap[b]? := by
  show (w.heap.push o)[b]? = _
  rw [Array.getElem?_push, if_neg (by omega)]
theorem alloc_size (w : World) (o : Obj) : w.heap.size ≤ (w.drew.alloc o).heap.size := by
  show w.heap.size ≤ (w.heap.push o).size
  simp
def AppRuns (w : World) (P : Program) (e : TypeId) (i : TypeInfo) (z : Value) (m : Nat) (news : Array Value) (Run : Option Addr → Nat → Nat → Result Value) : Prop := ∀ (base : Option Addr) (sLen sCap : Nat),
    (∀ w' : World, sLen + m ≤ sCap → (∀ a, base = some a → (storeCells (a.add (sLen * i.size)) news.toList).run P w = .ok () w') → (base = none → w' = w) → Run base sLen sCap = .ok (.slice base (sLen + m) sCap) w') ∧
    (∀ old : Array Value, sCap < sLen + m → (Builtin.firstCells i.size sLen (.slice base sLen sCap)).run P w.drew = .ok old w.drew → ((sLen + m : Nat) : Int) ≤ 9223372036854775807 → (sLen + m) * i.bytes ≤ 140737488355328 →
      Run base sLen sCap = .ok (.slice (some ⟨w.heap.size, 0, none⟩) (sLen + m) (grownCap w (sLen + m) sCap e))
          (w.drew.alloc (.cells (old ++ news ++ Builtin.zeroCells z.cells (grownCap w (sLen + m) sCap e - (sLen + m))) e)))
theorem app_core (H : HRel k h w) {e : TypeId} {i : TypeInfo} {z : Value} (hzs : z.cells.size = i.size)
    {s lim : Nat} (hsz : i.size = s) (hlim : lim * i.bytes ≤ 140737488355328) (h63 : lim ≤ 9223372036854775807) {x y r : AV} {h' : Heap} {vx : Value} (hx : VRel k w x vx) {ys : List AV} (hys0 : elems h s y = some ys) {news : Array Value} (E : Elems k w s ys news) (hsy : ∀ e ∈ ys, (cells e).length = s)
    {Run : Option Addr → Nat → Nat → Result Value} (hR : AppRuns w P e i z ys.length news Run) (ha : appA h s lim x y = some (r, h')) :
    ∃ v w' k', (∃ base sLen sCap, vx = .slice base sLen sCap ∧ Run base sLen sCap = .ok v w') ∧ Fr k w k' w' ∧ HRel k' h' w' ∧ VRel k' w' r v := by
  subst hsz
  simp only [appA, hys0, Option.bind_some] at ha
  have fresh : ∀ (base : Option Addr) (zv : AV), VRel k w zv (.slice base 0 0) → (if ys.isEmpty = true then some (zv, h) else if ys.length ≤ lim then some (.ref h.length 0 i.size 0 ys.length, h ++ [some ⟨0, i.size, ys⟩]) else none) = some (r, h') →
      ∃ v w' k', (∃ base' sLen sCap, Value.slice base 0 0 = .slice base' sLen sCap ∧ Run base' sLen sCap = .ok v w') ∧ Fr k w k' w' ∧ HRel k' h' w' ∧ VRel k' w' r v := by
    intro base zv hzv hnew
    obtain ⟨R1, R2⟩ := hR base 0 0
    split at hnew
    · rename_i hem
      simp only [Option.some.injEq, Prod.mk.injEq] at hnew
      obtain ⟨rfl, rfl⟩ := hnew
      have h0 : ys.length = 0 := by simpa using hem
      have hn0 : news.toList = [] := by
        have := E.size
        rw [h0] at this
        exact List.eq_nil_of_length_eq_zero (by rw [Array.length_toList, this]; simp)
      refine ⟨.slice base 0 0, w, k, ⟨base, 0, 0, rfl, ?_⟩, Fr.refl k w, H, hzv⟩
      have := R1 w (by omega) (fun a _ => by rw [hn0]; rfl) (fun _ => rfl)
      simpa only [h0, Nat.zero_add] using this
    · rename_i hem
      split at hnew
      · rename_i hle
        simp only [Option.some.injEq, Prod.mk.injEq] at hnew
        obtain ⟨rfl, rfl⟩ := hnew
        have h0 : 0 < ys.length := by
          cases ys with
          | nil => exact absurd rfl hem
          | cons _ _ => simp
        have hrun := R2 #[] (by omega) (by cases base <;> simp [Builtin.firstCells, loadCells, loadCellsFrom]) (by omega) (by
          rw [Nat.zero_add]
          exact Nat.le_trans (Nat.mul_le_mul_right _ hle) hlim)
        have hge := grownCap_ge w (0 + ys.length) 0 e
        have hsize := grown_size (z := z) (s := i.size) (need := 0 + ys.length) (cap := grownCap w (0 + ys.length) 0 e) (old := #[]) (news := news) hzs hge (by simp [E.size])
        have hel := elems_append (s := i.size) (xs := []) (ys := ys) (old := #[]) (news := news) (rest := Builtin.zeroCells z.cells (grownCap w (0 + ys.length) 0 e - (0 + ys.length))) (k := k) (w := w) (by simp) (by simp) (by simp) E hsy
        obtain ⟨hF, hH⟩ := new_block (c := #[] ++ news ++ Builtin.zeroCells z.cells (grownCap w (0 + ys.length) 0 e - (0 + ys.length))) (e := e) (w' := w.drew.alloc (.cells (#[] ++ news ++ Builtin.zeroCells z.cells (grownCap w (0 + ys.length) 0 e - (0 + ys.length))) e)) (xs := ys) (s := i.size) H rfl rfl rfl rfl hsy
          (by rw [hsize]; exact Nat.mul_le_mul_right _ (by omega)) (by simpa using hel)
        refine ⟨_, _, _, ⟨base, 0, 0, rfl, hrun⟩, hF, hH, ?_⟩
        rw [Nat.zero_add] at hge ⊢
        refine .ref h.length 0 i.size 0 ys.length _ _ (push_ok H _) hge fun l hl => ?_
        simp only [Kr.push, H.n, if_true, Option.some.injEq] at hl
        subst hl
        refine ⟨Nat.le_refl _, fun _ => ⟨rfl, by simp, .inl ⟨by simp, _, _, _, alloc_at w _, ?_⟩⟩⟩
        rw [Nat.zero_add] at hsize
        simp only [Nat.zero_add]
        rw [hsize]
        exact Nat.le_refl _
      · cases hnew
  split at ha
  · obtain rfl := hx.nil_inv
    exact fresh none .nil hx ha
  · obtain ⟨a, cap, rfl, hcap⟩ := hx.emp_inv
    obtain rfl := hcap rfl
    exact fresh (some a) (.emp true) hx ha
  · obtain ⟨a, rfl⟩ := hx.zero_inv
    exact fresh a .zero hx ha
  · rename_i id v s' off len
    split at ha
    · rename_i hss
      subst hss
      obtain ⟨b, hb, ha⟩ := Option.bind_eq_some_iff.1 ha
      split at ha
      · rename_i hle
        simp only [Option.some.injEq, Prod.mk.injEq] at ha
        obtain ⟨rfl, rfl⟩ := ha
        obtain ⟨a, cap, rfl, hid, hlc, hl⟩ := hx.ref_inv
        obtain ⟨l, g1, g2, g3, g4, B, g5, g6⟩ := H.blk hb
        obtain ⟨q1, q2, q3⟩ := (hl l g1).2 g2.symm
        obtain ⟨old, o1, o2, o3, o4, o5⟩ := ref_cells (P := P) H hx hb (by rw [← g3, q1])
        obtain ⟨R1, R2⟩ := hR (some a) len cap
        have hxl : (sub b.xs off len ++ ys).length = len + ys.length := by rw [List.length_append, o3]
        have hsx : ∀ y ∈ sub b.xs off len ++ ys, (cells y).length = i.size := fun y hy => by
          rcases List.mem_append.1 hy with h1 | h1
          · exact o4 y h1
          · exact hsy y h1
        by_cases hroom : len + ys.length ≤ cap
        ·
          obtain ⟨c, e0, hc, hz0, hr0⟩ := B.ex
          have hbase : l.base + off * i.size ≤ c.size := by
            have := Nat.mul_le_mul_right i.size (show off ≤ b.xs.length by omega)
            rw [q1] at hz0
            omega
          rcases q3 with ⟨rfl, c1, e1, f1, hc1, hfit⟩ | ⟨rfl, rfl⟩
          · rw [hc] at hc1
            simp only [Option.some.injEq, Obj.cells.injEq] at hc1
            obtain ⟨rfl, rfl, rfl⟩ := hc1
            have hspan : (off + (len + ys.length)) * i.size ≤ (off + cap) * i.size := Nat.mul_le_mul_right _ (by omega)
            have hexp : (off + (len + ys.length)) * i.size = off * i.size + len * i.size + ys.length * i.size := by rw [Nat.add_mul, Nat.add_mul]; omega
            have hnl : news.toList.length = ys.length * i.size := by rw [Array.length_toList, E.size]
            obtain ⟨c', p1, p2, p3, p4, p5, p6, p7, p8, p9⟩ := setCells_heap l.b e0 (0, 0) news.toList (l.base + off * i.size + len * i.size) w c hc (by rw [hnl]; omega)
            have hst := run_storeCells_cells (P := P) l.b (l.base + off * i.size + len * i.size) news.toList 0 w (fun m hm => by
                have : l.base + off * i.size + len * i.size + m < c.size := by omega
                simp [World.cell?, hc, this]) (fun m hm => by simp [World.frozen?, hc]) E.one
            simp only [Nat.add_zero] at hst
            have hrun := R1 _ hroom (fun a' ha' => by
              simp only [Option.some.injEq] at ha'
              subst ha'
              rw [add_mk]
              exact hst) (fun h0 => by cases h0)
            have hF : Fr k w (k.setLoc id ⟨v + 1, l.b, l.base + off * i.size, i.size, len + ys.length⟩) (w.setCells l.b (l.base + off * i.size + len * i.size) news.toList) :=
              setLoc_fr H g1 (by simp; omega) p7 p8 p9 (by omega) (.inl rfl) (fun b' _ hb' => p5 b' hb') (fun c2 e2' f2 hq => by
                rw [hc] at hq
                simp only [Option.some.injEq, Obj.cells.injEq] at hq
                obtain ⟨rfl, rfl, rfl⟩ := hq
                exact ⟨c', e0, (0, 0), p1, p2⟩)
            refine ⟨_, _, _, ⟨_, _, _, rfl, hrun⟩, hF, ?_, ?_⟩
            · refine re_block H g6 g1 hF (fun j m hne hm => p5 _ (other_block H g1 j m hne hm)) (fun j m hne hm => other_block H g1 j m hne hm) (H.nob id l g1) rfl rfl hxl.symm ⟨⟨c', e0, p1, ?_, fun j y j' x' hj hj' => ?_⟩, hsx⟩
              · rw [p2, hxl]
                simp only
                rw [Nat.add_mul]
                omega
              · have hjs : j' < i.size := by rw [← hsx y (List.mem_of_getElem? hj)]; exact (List.getElem?_eq_some_iff.1 hj').1
                refine VRel.mono hF ?_
                simp only
                by_cases hjl : j < len
                · rw [List.getElem?_append_left (by omega)] at hj
                  have hsp := mul_lt_span hjl hjs
                  rw [p4 _ (.inl (by omega))]
                  obtain ⟨hj1, _⟩ := sub_get hj
                  have := hr0 _ y j' x' hj1 hj'
                  rw [q1] at this
                  rw [show l.base + off * i.size + j * i.size + j' = l.base + (off + j) * i.size + j' by rw [Nat.add_mul]; omega]
                  exact this
                · rw [List.getElem?_append_right (by omega), o3] at hj
                  have hj2 := (List.getElem?_eq_some_iff.1 hj).1
                  have hsp := mul_lt_span hj2 hjs
                  have hn2 : news.toList[(j - len) * i.size + j']? = some (news.getD ((j - len) * i.size + j') undef) := by
                    have : (j - len) * i.size + j' < news.size := by rw [E.size]; exact hsp
                    simp [this]
                  have h3 := p3 _ _ hn2
                  rw [show l.base + off * i.size + len * i.size + ((j - len) * i.size + j') = l.base + off * i.size + j * i.size + j' by
                    have : j = len + (j - len) := by omega
                    conv => rhs; rw [this, Nat.add_mul]
                    omega] at h3
                  rw [h3]
                  exact E.rel _ y j' x' hj hj'
            · refine .ref id (v + 1) i.size 0 (len + ys.length) _ cap hid hroom fun l2 hl2 => ?_
              simp only [Kr.setLoc, if_true, Option.some.injEq] at hl2
              subst hl2
              refine ⟨Nat.le_refl _, fun _ => ⟨rfl, by simp, .inl ⟨by simp, c', e0, (0, 0), p1, ?_⟩⟩⟩
              simp only
              rw [p2, Nat.zero_add]
              rw [Nat.add_mul] at hfit
              omega
          ·
            have h0 : ys.length = 0 := by omega
            have hn0 : news.toList = [] := by
              have := E.size
              rw [h0] at this
              exact List.eq_nil_of_length_eq_zero (by rw [Array.length_toList, this]; simp)
            have hrun := R1 w hroom (fun a' _ => by rw [hn0]; rfl) (fun _ => rfl)
            have hF : Fr k w (k.setLoc id ⟨v + 1, l.b, l.base + off * i.size, i.size, 0 + ys.length⟩) w :=
              setLoc_fr H g1 (by simp; omega) rfl rfl rfl (Nat.le_refl _) (.inl rfl) (fun b' _ hb' => rfl) (fun c2 e2' f2 hq => ⟨c2, e2', f2, hq, rfl⟩)
            refine ⟨_, _, _, ⟨_, _, _, rfl, hrun⟩, hF, ?_, ?_⟩
            · refine re_block H g6 g1 hF (fun j m hne hm => rfl) (fun j m hne hm => other_block H g1 j m hne hm) (H.nob id l g1) rfl rfl hxl.symm ⟨⟨c, e0, hc, ?_, fun j y j' x' hj hj' => ?_⟩, hsx⟩
              · rw [hxl, h0]; simpa using hbase
              · have := (List.getElem?_eq_some_iff.1 hj).1
                rw [hxl, h0] at this
                omega
            · rw [h0] at *
              refine .ref id (v + 1) i.size 0 (0 + 0) _ 0 hid (Nat.le_refl _) fun l2 hl2 => ?_
              simp only [Kr.setLoc, if_true, Option.some.injEq] at hl2
              subst hl2
              exact ⟨Nat.le_refl _, fun _ => ⟨rfl, by simp, .inr ⟨rfl, rfl⟩⟩⟩
        ·
          have hrun := R2 old (by omega) (by
            have := o1 w.drew rfl
            exact this) (by omega) (Nat.le_trans (Nat.mul_le_mul_right _ hle) hlim)
          have hge := grownCap_ge w (len + ys.length) cap e
          have hsize := grown_size (z := z) (s := i.size) (need := len + ys.length) (cap := grownCap w (len + ys.length) cap e) (old := old) (news := news) hzs hge (by rw [o2, E.size, Nat.add_mul])
          have hel := elems_append (s := i.size) (xs := sub b.xs off len) (ys := ys) (old := old) (news := news) (rest := Builtin.zeroCells z.cells (grownCap w (len + ys.length) cap e - (len + ys.length))) (k := k) (w := w) (by rw [o2, o3]) o4 o5 E hsy
          have hlt := (H.lt g1).2
          have hF : Fr k w (k.setLoc id ⟨v + 1, w.heap.size, 0, i.size, len + ys.length⟩) (w.drew.alloc (.cells (old ++ news ++ Builtin.zeroCells z.cells (grownCap w (len + ys.length) cap e - (len + ys.length))) e)) :=
            setLoc_fr H g1 (by simp; omega) rfl rfl rfl (alloc_size w _) (.inr (Nat.le_refl _)) (fun b' hb' _ => alloc_old w _ hb') (fun c2 e2' f2 hq => ⟨c2, e2', f2, (alloc_old w _ hlt).trans hq, rfl⟩)
          refine ⟨_, _, _, ⟨_, _, _, rfl, hrun⟩, hF, ?_, ?_⟩
          · refine re_block H g6 g1 hF (fun j m hne hm => alloc_old w _ (H.lt hm).2) (fun j m hne hm => by have := (H.lt hm).2; simp only; omega) (fun hb => Nat.lt_irrefl _ (H.banlt _ hb)) rfl rfl hxl.symm ⟨⟨_, e, alloc_at w _, ?_, fun j y j' x' hj hj' => ?_⟩, hsx⟩
            · rw [hsize, hxl]
              simp only [Nat.zero_add]
              exact Nat.mul_le_mul_right _ hge
            · refine VRel.mono hF ?_
              simp only [Nat.zero_add]
              exact hel j y j' x' hj hj'
          · refine .ref id (v + 1) i.size 0 (len + ys.length) _ _ hid hge fun l2 hl2 => ?_
            simp only [Kr.setLoc, if_true, Option.some.injEq] at hl2
            subst hl2
            refine ⟨Nat.le_refl _, fun _ => ⟨rfl, by simp, .inl ⟨by simp, _, _, _, alloc_at w _, ?_⟩⟩⟩
            simp only [Nat.zero_add]
            rw [hsize]
            exact Nat.le_refl _
      · cases ha
    · cases ha
  · cases ha
theorem app_sound (H : HRel k h w) {t xT ty e e2 : TypeId} {i : TypeInfo} {z : Value} (ht : P.underlying t = some (.slice e)) (hxT : P.underlying xT = some (.slice e2)) (hi : P.info? e = some i) (hz : i.zero = some z) (hzs : z.cells.size = i.size)
    {s lim : Nat} (hsz : i.size = s) (hlim : lim * i.bytes ≤ 140737488355328) (h63 : lim ≤ 9223372036854775807) {x y r : AV} {h' : Heap} {vx vy : Value} (hx : VRel k w x vx) (hy : VRel k w y vy) (ha : appA h s lim x y = some (r, h')) :
    ∃ v w' k', (Builtin.append_ #[t, xT] ty #[vx, vy]).run P w = .ok v w' ∧ Fr k w k' w' ∧ HRel k' h' w' ∧ VRel k' w' r v := by
  subst hsz
  have ha' := ha
  simp only [appA] at ha'
  obtain ⟨ys, hys, _⟩ := Option.bind_eq_some_iff.1 ha'
  obtain ⟨xa, xc, news, rfl, hnews, E, hok⟩ := firstCells_sound (P := P) H hys hy
  obtain ⟨v, w', k', ⟨base, sLen, sCap, rfl, hrun⟩, h1⟩ := app_core (P := P) (e := e) (z := z) (Run := fun base sLen sCap => (Builtin.append_ #[t, xT] ty #[.slice base sLen sCap, .slice xa ys.length xc]).run P w) H hzs rfl hlim h63 hx hys E
    (fun e he => (okS_mem hok he).1) (fun base sLen sCap => run_app (P := P) (w := w) (ty := ty) (m := ys.length) ht hxT hi hz hnews (base := base) (sLen := sLen) (sCap := sCap)) ha
  exact ⟨v, w', k', hrun, h1⟩
theorem getD_zeros {z : Array Value} {s n i j : Nat} (hz : z.size = s) (hi : i < n) (hj : j < s) : (Builtin.zeroCells z n).getD (i * s + j) undef = z.getD j undef := by
  have h1 := mul_lt_span hi hj
  have h2 : (i * s + j) % s = j := by rw [Nat.add_comm, Nat.add_mul_mod_self_right, Nat.mod_eq_of_lt hj]
  have h3 : i * s + j < n * z.size := by rw [hz]; exact h1
  have : j < z.size := by omega
  simp [Builtin.zeroCells, h3, hz, h2, h1, this, Nat.mod_eq_of_lt hj]
  rw [getElem!_pos z j this]
  simp [this]
theorem run_appz {t xT ty e : TypeId} {kk : IntKind} {i : TypeInfo} {z : Value} (ht : P.underlying t = some (.slice e)) (hx : P.underlying xT = some (.int kk)) (hi : P.info? e = some i) (hz : i.zero = some z) (hzs : z.cells.size = i.size)
    {m : Nat} (hm : m * i.bytes ≤ 140737488355328) (hm63 : m ≤ 9223372036854775807) : AppRuns w P e i z m (Builtin.zeroCells z.cells m) (fun base sLen sCap => (Builtin.append_ #[t, xT] ty #[.slice base sLen sCap, .int .i64 m]).run P w) := by
  have hw : IntKind.i64.wrap (m : Int) = m := by rw [IntKind.wrap_i64]; omega
  have n1 : ¬ ((m : Int) < 0) := by omega
  have n2 : ¬ (281474976710656 < (m : Int) * (i.bytes : Int)) := by
    have : (m : Int) * (i.bytes : Int) = ((m * i.bytes : Nat) : Int) := by rw [Int.natCast_mul]
    omega
  have hz0 : m * i.size = 0 → Builtin.zeroCells z.cells m = #[] := by
    intro h0
    apply Array.eq_empty_of_size_eq_zero
    rw [size_zeroCells, hzs, h0]
  have happ : ∀ w' : World, (if m * i.size = 0 then pure #[] else do pure (Builtin.zeroCells (← zeroValue e).cells m) : Sem (Array Value)).run P w' = .ok (Builtin.zeroCells z.cells m) w' := by
    intro w'
    by_cases h0 : m * i.size = 0
    · rw [if_pos h0, hz0 h0]; rfl
    · rw [if_neg h0]; simp [zeroValue, typeInfo, hi, hz]
  intro base sLen sCap
  constructor
  · intro w' hle hst hnone
    cases base with
    | none =>
      obtain rfl := hnone rfl
      by_cases h0 : m * i.size = 0
      · simp [Builtin.append_, run_underlying ht, run_underlying hx, sizeOf, typeInfo, hi, asInt, asIntOf, hw, n1, n2, hle, h0]
      · simp [Builtin.append_, run_underlying ht, run_underlying hx, sizeOf, typeInfo, zeroValue, hi, hz, asInt, asIntOf, hw, n1, n2, hle, h0]
    | some a =>
      have hst' := hst a rfl
      by_cases h0 : m * i.size = 0
      · rw [hz0 h0] at hst'
        simp [Builtin.append_, run_underlying ht, run_underlying hx, sizeOf, typeInfo, hi, asInt, asIntOf, hw, n1, n2, hle, h0, hst']
      · simp [Builtin.append_, run_underlying ht, run_underlying hx, sizeOf, typeInfo, zeroValue, hi, hz, asInt, asIntOf, hw, n1, n2, hle, h0, hst']
  · intro old hgt hold h63 hb
    have hn : ¬ (sLen + m ≤ sCap) := by omega
    have h63' : ¬ (9223372036854775807 < ((sLen : Int) + (m : Int))) := by omega
    have hfit := growslice_fits (need := sLen + m) (old := sCap) (bytes := i.bytes) (by omega) hb
    have h48' : ¬ (281474976710656 < Builtin.nextslicecap (sLen + m) sCap * i.bytes) := by omega
    by_cases h0 : m * i.size = 0
    · rw [hz0 h0]
      simp [Builtin.append_, run_underlying ht, run_underlying hx, sizeOf, typeInfo, zeroValue, hi, hz, asInt, asIntOf, hw, n1, n2, hn, h63', h48', h0, Question.forced, hold, newRow, grownCap]
    · simp [Builtin.append_, run_underlying ht, run_underlying hx, sizeOf, typeInfo, zeroValue, hi, hz, asInt, asIntOf, hw, n1, n2, hn, h63', h48', h0, Question.forced, hold, newRow, grownCap]
theorem appz_sound (H : HRel k h w) {t xT ty e : TypeId} {kk : IntKind} {i : TypeInfo} {z : Value} (ht : P.underlying t = some (.slice e)) (hxT : P.underlying xT = some (.int kk)) (hi : P.info? e = some i) (hz : i.zero = some z)
    {s lim : Nat} (hsz : i.size = s) (hlim : lim * i.bytes ≤ 140737488355328) (h63 : lim ≤ 9223372036854775807) {za : AV} (hza : ∀ k w, VRel k w za z) (hzc : (cells za).all okCell = true) (hcs : (cells za).length = s) {x r : AV} {h' : Heap} {vx : Value} (hx : VRel k w x vx) {m : Nat} (hm : m ≤ lim)
    (ha : appA h s lim x (.lst (List.replicate m za)) = some (r, h')) :
    ∃ v w' k', (Builtin.append_ #[t, xT] ty #[vx, .int .i64 m]).run P w = .ok v w' ∧ Fr k w k' w' ∧ HRel k' h' w' ∧ VRel k' w' r v := by
  subst hsz
  have hzz := (hza k w).cellsOf hzc
  have hzs : z.cells.size = i.size := by rw [hzz.1, hcs]
  have hok : okS i.size (List.replicate m za) = true := by
    refine List.all_eq_true.2 fun e he => ?_
    rw [List.eq_of_mem_replicate he]
    simp only [okE, hcs, beq_self_eq_true, hzc, Bool.and_self]
  have hys : elems h i.size (.lst (List.replicate m za)) = some (List.replicate m za) := by simp only [elems, hok, if_true]
  have E : Elems k w i.size (List.replicate m za) (Builtin.zeroCells z.cells m) := by
    refine ⟨by rw [size_zeroCells, hzs, List.length_replicate], fun i' y j x hi' hj => ?_, fun u hu => ?_⟩
    · have h1 := (List.getElem?_eq_some_iff.1 hi').1
      rw [List.length_replicate] at h1
      rw [List.getElem?_replicate, if_pos h1] at hi'
      simp only [Option.some.injEq] at hi'
      subst hi'
      have hj' : j < i.size := by rw [← hcs]; exact (List.getElem?_eq_some_iff.1 hj).1
      rw [getD_zeros hzs h1 hj']
      exact hzz.2.1 j x hj
    · simp [Builtin.zeroCells] at hu
      obtain ⟨j, hj, rfl⟩ := hu
      have h0 : 0 < z.cells.size := Nat.pos_of_ne_zero fun h => by rw [h] at hj; simp at hj
      have h1 : j % z.cells.size < z.cells.size := Nat.mod_lt _ h0
      refine hzz.2.2 _ ?_
      simp [h1]
  have hmb : m * i.bytes ≤ 140737488355328 := Nat.le_trans (Nat.mul_le_mul_right _ hm) hlim
  have hR := run_appz (P := P) (w := w) (ty := ty) ht hxT hi hz hzs hmb (by omega)
  have hll : (List.replicate m za).length = m := List.length_replicate
  obtain ⟨v, w', k', ⟨base, sLen, sCap, rfl, hrun⟩, h1⟩ := app_core (P := P) (e := e) (z := z) (Run := fun base sLen sCap => (Builtin.append_ #[t, xT] ty #[.slice base sLen sCap, .int .i64 m]).run P w) H hzs rfl hlim h63 hx hys E
    (fun e he => (okS_mem hok he).1) (by rw [hll]; exact hR) ha
  exact ⟨v, w', k', hrun, h1⟩
theorem take_get {α : Type} {ys : List α} {n i : Nat} {e : α} (h : (ys.take n)[i]? = some e) : ys[i]? = some e ∧ i < n := by
  rw [List.getElem?_take] at h
  split at h
  · rename_i hi; exact ⟨h, hi⟩
  · cases h
theorem copy_sound (H : HRel k h w) {t xT ty e : TypeId} {i : TypeInfo} (ht : P.underlying t = some (.slice e)) (hi : P.info? e = some i)
    {s : Nat} (hsz : i.size = s) {x y r : AV} {h' : Heap} {vx vy : Value} (hx : VRel k w x vx) (hy : VRel k w y vy) (ha : copyA h s x y = some (r, h')) :
    ∃ v w', (Builtin.copy_ #[t, xT] ty #[vx, vy]).run P w = .ok v w' ∧ Fr k w k w' ∧ HRel k h' w' ∧ VRel k w' r v := by
  subst hsz
  simp only [copyA] at ha
  obtain ⟨ys, hys, ha⟩ := Option.bind_eq_some_iff.1 ha
  split at ha
  · rename_i id v s' off len hq_
    split at ha
    · rename_i hss
      subst hss
      obtain ⟨b, hb, ha⟩ := Option.map_eq_some_iff.1 ha
      simp only [Prod.mk.injEq] at ha
      obtain ⟨rfl, rfl⟩ := ha
      obtain ⟨ya, yc, rfl, hok, hr⟩ := elems_rel H hys hy
      obtain ⟨a, cap, rfl, hid, hlc, hl⟩ := hx.ref_inv
      obtain ⟨l, g1, g2, g3, g4, B, g5, g6⟩ := H.blk hb
      obtain ⟨q1, q2, q3⟩ := (hl l g1).2 g2.symm
      have hsy : ∀ e ∈ ys.take len, (cells e).length = i.size := fun e he => (okS_mem hok (List.mem_of_mem_take he)).1
      have hminl : (ys.take len).length = min ys.length len := by rw [List.length_take, Nat.min_comm]
      obtain ⟨vs, c1, E⟩ := first_of (P := P) (len := ys.length) (cap := yc) hsy (fun e he => (okS_mem hok (List.mem_of_mem_take he)).2) (fun i' e' j x hi' hj => hr i' e' j x (take_get hi').1 hj)
      rw [hminl] at c1
      have htk : ys.take (min ys.length len) = ys.take len := by
        by_cases hc : len ≤ ys.length
        · rw [Nat.min_eq_right hc]
        · rw [Nat.min_eq_left (by omega), List.take_of_length_le (by omega), List.take_of_length_le (by omega)]
      rw [htk]
      obtain ⟨c, e0, hc, hz0, hr0⟩ := B.ex
      rw [q1] at hz0
      have hnl : vs.toList.length = min ys.length len * i.size := by rw [Array.length_toList, E.size, hminl]
      have hgo : ∃ (w' : World) (c' : Array Value), (match some a with | some ad => storeCells ad vs.toList | none => Pure.pure ()).run P w = .ok () w' ∧ w'.heap[l.b]? = some (.cells c' e0 (0, 0)) ∧ c'.size = c.size ∧
          (∀ j u, vs.toList[j]? = some u → c'.getD (l.base + off * i.size + j) undef = u) ∧ (∀ j, (j < l.base + off * i.size ∨ l.base + off * i.size + vs.toList.length ≤ j) → c'.getD j undef = c.getD j undef) ∧
          (∀ b', b' ≠ l.b → w'.heap[b']? = w.heap[b']?) ∧ w'.heap.size = w.heap.size ∧ w'.os = w.os ∧ w'.tape = w.tape ∧ w'.output = w.output := by
        rcases q3 with ⟨rfl, c1', e1, f1, hc1, hfit⟩ | ⟨rfl, rfl⟩
        · have hspan : (off + min ys.length len) * i.size ≤ b.xs.length * i.size := Nat.mul_le_mul_right _ (by omega)
          rw [Nat.add_mul] at hspan
          obtain ⟨c', p1, p2, p3, p4, p5, p6, p7, p8, p9⟩ := setCells_heap l.b e0 (0, 0) vs.toList (l.base + off * i.size) w c hc (by rw [hnl]; omega)
          have hst := run_storeCells_cells (P := P) l.b (l.base + off * i.size) vs.toList 0 w (fun m hm => by
              have : l.base + off * i.size + m < c.size := by omega
              simp [World.cell?, hc, this]) (fun m hm => by simp [World.frozen?, hc]) E.one
          simp only [Nat.add_zero] at hst
          exact ⟨_, c', hst, p1, p2, p3, p4, p5, p6, p7, p8, p9⟩
        · have hn0 : vs.toList = [] := List.eq_nil_of_length_eq_zero (by rw [hnl]; simp)
          rw [hn0]
          exact ⟨w, c, rfl, hc, rfl, fun j u hj => by simp at hj, fun j _ => rfl, fun _ _ => rfl, rfl, rfl, rfl, rfl⟩
      obtain ⟨w', c', p0, p1, p2, p3, p4, p5, p6, p7, p8, p9⟩ := hgo
      have hrun : (Builtin.copy_ #[t, xT] ty #[.slice (some a) len cap, .slice ya ys.length yc]).run P w = .ok (goInt (min ys.length len : Nat)) w' := by
        simp only at p0
        have hmin : Nat.min ys.length len = min ys.length len := rfl
        simp [Builtin.copy_, run_underlying ht, Builtin.lenOf, sizeOf, typeInfo, hi, hmin, c1 w rfl, p0]
      have hlt : (b.xs.take off).length = off := by simp; omega
      have hll : (b.xs.take off ++ ys.take len ++ b.xs.drop (off + min ys.length len)).length = l.n := by
        simp only [List.length_append, hlt, hminl, List.length_drop]
        omega
      obtain ⟨hF, hH⟩ := write_block (xs := b.xs.take off ++ ys.take len ++ b.xs.drop (off + min ys.length len)) H g6 g1 (by rw [g2, g5]) g3 hc p1 p2 p5 p6 p7 p8 p9 hll g4 (fun y' hy' => by
          rcases List.mem_append.1 hy' with h1 | h1
          · rcases List.mem_append.1 h1 with h2 | h2
            · exact B.sz y' (List.mem_of_mem_take h2)
            · rw [q1]; exact hsy y' h2
          · exact B.sz y' (List.mem_of_mem_drop h1)) (by rw [hll, g4, q1]; exact hz0) (fun i' y' j' x' g7 g8 => by
          have hj' : j' < i.size := by
            have h1 := (List.getElem?_eq_some_iff.1 g8).1
            rw [getElem?_mid] at g7
            have : (cells y').length = i.size := by
              split at g7
              · rw [B.sz y' (List.mem_of_mem_take (List.mem_of_getElem? g7)), q1]
              · split at g7
                · exact hsy y' (List.mem_of_getElem? g7)
                · rw [B.sz y' (List.mem_of_mem_drop (List.mem_of_getElem? g7)), q1]
            omega
          rw [getElem?_mid, hlt, hminl] at g7
          rw [q1]
          split at g7
          · rename_i h1
            have hsp := mul_lt_span h1 hj'
            rw [p4 _ (.inl (by omega))]
            have := hr0 i' y' j' x' (take_get g7).1 g8
            rw [q1] at this
            exact this
          · rename_i h1
            split at g7
            · rename_i h2
              have h3 := E.rel _ y' j' x' g7 g8
              have hsp := mul_lt_span (show i' - off < min ys.length len by omega) hj'
              have h4 : vs.toList[(i' - off) * i.size + j']? = some (vs.getD ((i' - off) * i.size + j') undef) := by
                have : (i' - off) * i.size + j' < vs.size := by rw [E.size, hminl]; exact hsp
                simp [this]
              have h5 := p3 _ _ h4
              rw [show l.base + off * i.size + ((i' - off) * i.size + j') = l.base + i' * i.size + j' by
                have : i' = off + (i' - off) := by omega
                conv => rhs; rw [this, Nat.add_mul]
                omega] at h5
              rw [h5]
              exact h3
            · rename_i h2
              rw [List.getElem?_drop] at g7
              have hge := Nat.mul_le_mul_right i.size (show off + min ys.length len ≤ i' by omega)
              rw [Nat.add_mul] at hge
              rw [p4 _ (.inr (by rw [hnl]; omega))]
              have := hr0 i' y' j' x' (by rw [← g7]; congr 1; omega) g8
              rw [q1] at this
              exact this)
      exact ⟨_, w', hrun, hF, hH, by simpa [goInt] using VRel.int .i64 ((min ys.length len : Nat) : Int)⟩
    · cases ha
  · cases ha
theorem getD_made {z : Array Value} {s n i j : Nat} (hz : z.size = s) (hi : i < n) (hj : j < s) : (madeCells z (n * s)).getD (i * s + j) undef = z.getD j undef := by
  have h1 := mul_lt_span hi hj
  have h2 : (i * s + j) % s = j := by rw [Nat.add_comm, Nat.add_mul_mod_self_right, Nat.mod_eq_of_lt hj]
  simp [madeCells, h1, hz, h2]
  have : j < z.size := by omega
  simp [this]
theorem mk_sound (H : HRel k h w) {t e : TypeId} {i : TypeInfo} {z : Value} (ht : P.underlying t = some (.slice e)) (hi : P.info? e = some i) (hz : i.zero = some z) {s lim : Nat} (hsz : i.size = s)
    (hlim : lim * i.bytes ≤ 281474976710656) (h63 : lim ≤ 9223372036854775807) {za : AV} (hza : ∀ k w, VRel k w za z) (hzc : (cells za).all okCell = true) {lA cA r : AV} {h' : Heap} {vl vc : Value} (hl : VRel k w lA vl) (hc : VRel k w cA vc)
    (ha : mkA h s lim za lA cA = some (r, h')) :
    ∃ v w' k', (Instr.makeSlice t vl vc).run P w = .ok v w' ∧ Fr k w k' w' ∧ HRel k' h' w' ∧ VRel k' w' r v := by
  subst hsz
  unfold mkA at ha
  split at ha
  · rename_i kl l kc c
    split at ha
    · rename_i hcond
      obtain ⟨h0, hlc, hcl, hcs⟩ := hcond
      simp only [Option.some.injEq, Prod.mk.injEq] at ha
      obtain ⟨rfl, rfl⟩ := ha
      obtain rfl := hl.int_inv
      obtain rfl := hc.int_inv
      have hbytes : (i.bytes : Int) * c ≤ 281474976710656 := by
        have h1 : c.toNat * i.bytes ≤ lim * i.bytes := Nat.mul_le_mul_right _ (by omega)
        have h2 : (i.bytes : Int) * c = ((c.toNat * i.bytes : Nat) : Int) := by
          rw [Int.natCast_mul, Int.toNat_of_nonneg (by omega), Int.mul_comm]
        rw [h2]
        omega
      have hrun := run_make (P := P) w t e i z ht hi hz kl kc l c h0 hlc hbytes (by omega)
      have hzz := (hza k w).cellsOf hzc
      have hzs : z.cells.size = i.size := by rw [hzz.1, hcs]
      obtain ⟨hF, hH⟩ := new_block (w' := w.alloc (.cells (madeCells z.cells (c.toNat * i.size)) e)) (xs := List.replicate l.toNat za) (s := i.size) H rfl rfl rfl rfl (fun y hy => by
          rw [List.eq_of_mem_replicate hy]; exact hcs) (by
          rw [size_madeCells, List.length_replicate]
          exact Nat.mul_le_mul_right _ (by omega)) (fun i' y j x hi' hj => by
          have h1 := (List.getElem?_eq_some_iff.1 hi').1
          rw [List.length_replicate] at h1
          rw [List.getElem?_replicate, if_pos h1] at hi'
          simp only [Option.some.injEq] at hi'
          subst hi'
          have hj' : j < i.size := by rw [← hcs]; exact (List.getElem?_eq_some_iff.1 hj).1
          rw [getD_made hzs (show i' < c.toNat by omega) hj']
          exact hzz.2.1 j x hj)
      rw [List.length_replicate] at hF hH
      refine ⟨_, _, _, hrun, hF, hH, ?_⟩
      refine .ref h.length 0 i.size 0 l.toNat _ _ (push_ok H _) (by omega) fun l' hl' => ?_
      simp only [Kr.push, H.n, if_true, Option.some.injEq] at hl'
      subst hl'
      refine ⟨Nat.le_refl _, fun _ => ⟨rfl, by simp, .inl ⟨by simp, madeCells z.cells (c.toNat * i.size), e, (0, 0), ?_, ?_⟩⟩⟩
      · show (w.heap.push _)[w.heap.size]? = _
        simp
      · rw [size_madeCells]; simp
    · cases ha
  · cases ha
end
end Go.AM

end
section
set_option linter.unusedVariables false
set_option linter.unusedSimpArgs false
namespace Go.AM
open Go
theorem mapM_some {α β : Type} {f : α → Option β} : ∀ {xs : List α} {ys : List β}, xs.mapM f = some ys → xs.length = ys.length ∧ ∀ (i : Nat) (y : β), ys[i]? = some y → ∃ x, xs[i]? = some x ∧ f x = some y := by
  intro xs
  induction xs with
  | nil => intro ys h; simp at h; subst h; exact ⟨rfl, fun i y h => by simp at h⟩
  | cons x xs ih =>
    intro ys h
    rw [List.mapM_cons] at h
    obtain ⟨y, hy, h⟩ := Option.bind_eq_some_iff.1 h
    obtain ⟨zs, hz, h⟩ := Option.bind_eq_some_iff.1 h
    obtain rfl : y :: zs = ys := by simpa using h
    obtain ⟨h1, h2⟩ := ih hz
    refine ⟨by simp [h1], fun i u hu => ?_⟩
    cases i with
    | zero => simp at hu; subst hu; exact ⟨x, rfl, hy⟩
    | succ i => simp at hu; simpa using h2 i u hu
section
variable {k : Kr} {h : Heap} {w : World}
theorem frz_cells {n : Nat} {e e' : AV} (hf : frz h n e = some e') : (cells e').length = (cells e).length ∧
    ∀ (j : Nat) (x' : AV), (cells e')[j]? = some x' → ∃ (x : AV) (m : Nat), (cells e)[j]? = some x ∧ frz h m x = some x' ∧ m ≤ n ∧ ∀ id ∈ used h m x, id ∈ used h n e := by
  cases n with
  | zero => simp [frz] at hf
  | succ n =>
    have plain : cells e = [e] → cells e' = [e'] → (cells e').length = (cells e).length ∧ ∀ (j : Nat) (x' : AV), (cells e')[j]? = some x' → ∃ (x : AV) (m : Nat), (cells e)[j]? = some x ∧ frz h m x = some x' ∧ m ≤ n + 1 ∧ ∀ id ∈ used h m x, id ∈ used h (n + 1) e := by
      intro h1 h2
      rw [h1, h2]
      refine ⟨rfl, fun j x' hx => ?_⟩
      cases j with
      | zero => simp at hx; subst hx; exact ⟨e, n + 1, rfl, hf, Nat.le_refl _, fun id hid => hid⟩
      | succ j => simp at hx
    cases e with
    | agg xs =>
      simp only [frz, Option.map_eq_some_iff] at hf
      obtain ⟨ys, hys, rfl⟩ := hf
      obtain ⟨h1, h2⟩ := mapM_some hys
      refine ⟨h1.symm, fun j x' hx => ?_⟩
      obtain ⟨x, hx1, hx2⟩ := h2 j x' hx
      exact ⟨x, n, hx1, hx2, Nat.le_succ _, fun id hid => List.mem_flatMap.2 ⟨x, List.mem_of_getElem? hx1, hid⟩⟩
    | nil => obtain rfl : AV.lst [] = e' := by simpa [frz] using hf
             exact plain rfl rfl
    | emp c => obtain rfl : AV.lst [] = e' := by simpa [frz] using hf
               exact plain rfl rfl
    | zero => obtain rfl : AV.lst [] = e' := by simpa [frz] using hf
              exact plain rfl rfl
    | ref id v s off len =>
      simp only [frz] at hf
      obtain ⟨b, _, hf⟩ := Option.bind_eq_some_iff.1 hf
      obtain ⟨ys, _, rfl⟩ := Option.map_eq_some_iff.1 hf
      exact plain rfl rfl
    | ptr id v i j =>
      simp only [frz] at hf
      split at hf
      · obtain ⟨b, _, hf⟩ := Option.bind_eq_some_iff.1 hf
        obtain ⟨e, _, hf⟩ := Option.bind_eq_some_iff.1 hf
        obtain ⟨y, _, rfl⟩ := Option.map_eq_some_iff.1 hf
        exact plain rfl rfl
      · cases hf
    | tup xs =>
      obtain ⟨ys, _, rfl⟩ := Option.map_eq_some_iff.1 hf
      exact plain rfl rfl
    | fn f fs cs =>
      simp only [frz] at hf
      obtain ⟨a, _, hf⟩ := Option.bind_eq_some_iff.1 hf
      obtain ⟨b, _, rfl⟩ := Option.map_eq_some_iff.1 hf
      exact plain rfl rfl
    | _ =>
      simp only [frz, Option.some.injEq] at hf
      subst hf
      exact plain rfl rfl
theorem kill_bad_le {S : List Nat} {b : Nat} (hb : (k.kill S).bad b) : k.bad b := by
  rcases hb with hb | ⟨id, l, h1, rfl⟩
  · exact .inl hb
  · simp only [Kr.kill] at h1
    split at h1
    · cases h1
    · exact .inr ⟨id, l, h1, rfl⟩
theorem FRel.weak {bad bad' : Nat → Prop} {x : AV} {v : Value} (H : FRel bad w x v) (h : ∀ b, bad' b → bad b) : FRel bad' w x v :=
  H.mono (Nat.le_refl _) fun b _ hn => ⟨rfl, fun hb => hn (h b hb)⟩
theorem kill_free (H : HRel k h w) {S : List Nat} {id : Nat} {l : Loc} (hl : k.loc id = some l) (hid : id ∈ S) : ¬ (k.kill S).bad l.b := by
  rintro (hb | ⟨id', l', h1, h2⟩)
  · exact H.nob id l hl hb
  · simp only [Kr.kill] at h1
    split at h1
    · cases h1
    · rename_i hn
      exact hn (H.inj id' id l' l h1 hl h2 ▸ hid)
theorem frz_rel (H : HRel k h w) (S : List Nat) : ∀ n x y v, frz h n x = some y → (∀ id ∈ used h n x, id ∈ S) → VRel k w x v → FRel (k.kill S).bad w y v := by
  intro n
  induction n using Nat.strongRecOn with
  | _ n ih =>
    intro x y v hf hu hv
    cases n with
    | zero => simp [frz] at hf
    | succ n =>
      have keep : ∀ {x : AV}, (∀ v, VRel k w x v → FRel k.bad w x v) → VRel k w x v → FRel (k.kill S).bad w x v := fun h1 h2 => (h1 _ h2).weak fun b hb => kill_bad_le hb
      have many : ∀ (xs ys : List AV) (vs : Array Value), xs.mapM (frz h n) = some ys → (∀ x ∈ xs, ∀ id ∈ used h n x, id ∈ S) → xs.length = vs.size → (∀ i x, xs[i]? = some x → VRel k w x (vs.getD i undef)) →
          ys.length = vs.size ∧ ∀ i y, ys[i]? = some y → FRel (k.kill S).bad w y (vs.getD i undef) := by
        intro xs ys vs h1 h2 h3 h4
        obtain ⟨h5, h6⟩ := mapM_some h1
        refine ⟨by omega, fun i y hy => ?_⟩
        obtain ⟨x, hx1, hx2⟩ := h6 i y hy
        exact ih n (Nat.lt_succ_self n) x y _ hx2 (h2 x (List.mem_of_getElem? hx1)) (h4 i x hx1)
      cases x with
      | nil =>
        obtain rfl : AV.lst [] = y := by simpa [frz] using hf
        obtain rfl := hv.nil_inv
        exact .lst0 _ _ fun _ => rfl
      | emp c =>
        obtain rfl : AV.lst [] = y := by simpa [frz] using hf
        obtain ⟨a, cap, rfl, _⟩ := hv.emp_inv
        exact .lst0 _ _ fun hn => by cases hn
      | zero =>
        obtain rfl : AV.lst [] = y := by simpa [frz] using hf
        obtain ⟨a, rfl⟩ := hv.zero_inv
        exact .lst0 _ _ fun _ => rfl
      | ref id vv s off len =>
        simp only [frz] at hf
        obtain ⟨b, hb, hf⟩ := Option.bind_eq_some_iff.1 hf
        obtain ⟨ys, hys, rfl⟩ := Option.map_eq_some_iff.1 hf
        obtain ⟨m1, m2⟩ := mapM_some hys
        obtain ⟨a, cap, rfl, hid, hlc, hl⟩ := hv.ref_inv
        obtain ⟨l, g1, g2, g3, g4, B, _⟩ := H.blk hb
        obtain ⟨q1, q2, q3⟩ := (hl l g1).2 g2.symm
        have hlen : (sub b.xs off len).length = len := by simp [sub]; omega
        have hidS : id ∈ S := hu id (by simp [used])
        rcases q3 with ⟨rfl, c1, e1, f1, hc1, hfit⟩ | ⟨rfl, rfl⟩
        · have hyl : ys.length = len := by omega
          rw [← hyl]
          have hcell : ∀ i j e' x', ys[i]? = some e' → (cells e')[j]? = some x' → ∃ u, w.cell? (Addr.add ⟨l.b, l.base + off * s, none⟩ (i * s + j)) = some u ∧ FRel (k.kill S).bad w x' u := by
            intro i j e' x' hi hj
            obtain ⟨e, he1, he2⟩ := m2 i e' hi
            obtain ⟨_, hcl⟩ := frz_cells he2
            obtain ⟨x, m, hx1, hx2, hmn, hus⟩ := hcl j x' hj
            obtain ⟨p1, p2⟩ := sub_get he1
            obtain ⟨u, hu1, hu2⟩ := B.cell p1 hx1
            refine ⟨u, ?_, ih m (by omega) x x' u hx2 (fun id' hid' => hu id' ?_) hu2⟩
            · rw [add_mk, ← hu1, q1]
              congr 2
              rw [Nat.add_mul]; omega
            · simp only [used, hb, List.mem_cons]
              exact .inr (List.mem_flatMap.2 ⟨e, List.mem_of_getElem? he1, hus id' hid'⟩)
          have hsz : ∀ e' ∈ ys, (cells e').length = s := by
            intro e' he'
            obtain ⟨i, hi⟩ := List.getElem?_of_mem he'
            obtain ⟨e, he1, he2⟩ := m2 i e' hi
            rw [(frz_cells he2).1, B.sz e (List.mem_of_mem_drop (List.mem_of_mem_take (List.mem_of_getElem? he1))), q1]
          refine .lst ys _ cap s (fun i j => match w.cell? (Addr.add ⟨l.b, l.base + off * s, none⟩ (i * s + j)) with | some u => u | none => undef) (by omega) hsz (kill_free H g1 hidS) (H.lt g1).2 (fun i j hi hj => ?_) fun i j e' x' hi hj => ?_
          · have hcl : j < (cells ys[i]).length := by rw [hsz _ (List.getElem_mem hi)]; exact hj
            obtain ⟨u, hu1, _⟩ := hcell i j ys[i] (cells ys[i])[j] (List.getElem?_eq_getElem hi) (List.getElem?_eq_getElem hcl)
            simp only [hu1]
          · obtain ⟨u, hu1, hu2⟩ := hcell i j e' x' hi hj
            simp only [hu1]
            exact hu2
        · have h0 : ys = [] := List.eq_nil_of_length_eq_zero (by omega)
          subst h0
          exact .lst0 _ _ fun hn => by cases hn
      | ptr id vv i j =>
        simp only [frz] at hf
        split at hf
        · rename_i hj0
          subst hj0
          obtain ⟨b, hb, hf⟩ := Option.bind_eq_some_iff.1 hf
          obtain ⟨e, he, hf⟩ := Option.bind_eq_some_iff.1 hf
          obtain ⟨e', he', rfl⟩ := Option.map_eq_some_iff.1 hf
          obtain ⟨a, rfl, hid, hl⟩ := hv.ptr_inv
          obtain ⟨l, g1, g2, g3, g4, B, _⟩ := H.blk hb
          obtain rfl := (hl l g1).2 g2.symm
          obtain ⟨hcl1, hcl⟩ := frz_cells he'
          have hidS : id ∈ S := hu id (by simp [used])
          have hcell : ∀ j x', (cells e')[j]? = some x' → ∃ u, w.cell? (Addr.add ⟨l.b, l.base + i * l.s + 0, none⟩ j) = some u ∧ FRel (k.kill S).bad w x' u := by
            intro j x' hj
            obtain ⟨x, m, hx1, hx2, hmn, hus⟩ := hcl j x' hj
            obtain ⟨u, hu1, hu2⟩ := B.cell he hx1
            refine ⟨u, by rw [add_mk]; exact hu1, ih m (by omega) x x' u hx2 (fun id' hid' => hu id' ?_) hu2⟩
            simp only [used, hb, Option.bind_some, he, List.mem_cons]
            exact .inr (hus id' hid')
          refine .fad e' _ (fun j => match w.cell? (Addr.add ⟨l.b, l.base + i * l.s + 0, none⟩ j) with | some u => u | none => undef) (kill_free H g1 hidS) (H.lt g1).2 (fun j hj => ?_) fun j y hj => ?_
          · obtain ⟨u, hu1, _⟩ := hcell j _ (List.getElem?_eq_getElem hj)
            simp only [hu1]
          · obtain ⟨u, hu1, hu2⟩ := hcell j y hj
            simp only [hu1]
            exact hu2
        · cases hf
      | agg xs =>
        obtain ⟨ys, hys, rfl⟩ := Option.map_eq_some_iff.1 hf
        obtain ⟨vs, rfl, hl, hr⟩ := hv.agg_inv
        obtain ⟨h1, h2⟩ := many xs ys vs hys (fun x hx id hid => hu id (by simp only [used]; exact List.mem_flatMap.2 ⟨x, hx, hid⟩)) hl hr
        exact .agg ys vs h1 h2
      | tup xs =>
        obtain ⟨ys, hys, rfl⟩ := Option.map_eq_some_iff.1 hf
        obtain ⟨vs, rfl, hl, hr⟩ := hv.tup_inv
        obtain ⟨h1, h2⟩ := many xs ys vs hys (fun x hx id hid => hu id (by simp only [used]; exact List.mem_flatMap.2 ⟨x, hx, hid⟩)) hl hr
        exact .tup ys vs h1 h2
      | fn f fs cs =>
        simp only [frz] at hf
        obtain ⟨a, ha, hf⟩ := Option.bind_eq_some_iff.1 hf
        obtain ⟨b, hb, rfl⟩ := Option.map_eq_some_iff.1 hf
        obtain ⟨vf, vc, rfl, hlf, hlc, hrf, hrc⟩ := hv.fn_inv
        obtain ⟨h1, h2⟩ := many fs a vf ha (fun x hx id hid => hu id (by simp only [used]; exact List.mem_append_left _ (List.mem_flatMap.2 ⟨x, hx, hid⟩))) hlf hrf
        obtain ⟨h3, h4⟩ := many cs b vc hb (fun x hx id hid => hu id (by simp only [used]; exact List.mem_append_right _ (List.mem_flatMap.2 ⟨x, hx, hid⟩))) hlc hrc
        exact .fn f a b vf vc h1 h3 h2 h4
      | _ =>
        simp only [frz, Option.some.injEq] at hf
        subst hf
        refine keep (fun v hv => ?_) hv
        cases hv with | frz hv => exact hv
theorem kill_get : ∀ (S : List Nat) (h : Heap) (i : Nat), (kill h S)[i]? = if i ∈ S then (h[i]?).map fun _ => none else h[i]? := by
  intro S
  induction S with
  | nil => intro h i; simp [kill]
  | cons s S ih =>
    intro h i
    simp only [kill]
    rw [ih]
    by_cases hi : i = s
    · subst hi
      by_cases hlt : i < h.length
      · rw [List.getElem?_set_self hlt]
        simp [hlt]
      · have h1 : h[i]? = none := List.getElem?_eq_none (by omega)
        have h2 : (h.set i none)[i]? = none := List.getElem?_eq_none (by simp; omega)
        rw [h1, h2]
        simp
    · rw [List.getElem?_set_ne (fun e => hi e.symm)]
      simp [hi]
theorem kill_len : ∀ (S : List Nat) (h : Heap), (kill h S).length = h.length := by
  intro S
  induction S with
  | nil => intro h; rfl
  | cons s S ih => intro h; simp only [kill]; rw [ih]; simp
theorem kill_fr (k : Kr) (w : World) (S : List Nat) : Fr k w (k.kill S) w where
  os := rfl
  tape := rfl
  output := rfl
  size := Nat.le_refl _
  old := fun b _ hr => ⟨rfl, fun ⟨id, l, h1, h2⟩ => hr (by
    simp only [Kr.kill] at h1
    split at h1
    · cases h1
    · exact ⟨id, l, h1, h2⟩)⟩
  shape := fun b c e f h => ⟨c, e, f, h, rfl⟩
  n := Nat.le_refl _
  ban := rfl
  vir := fun _ _ h => h
  vir2 := fun _ _ h => h
  loc := fun id l' _ h1 => by
    simp only [Kr.kill] at h1
    split at h1
    · cases h1
    · exact ⟨l', h1, .inl rfl⟩
theorem kill_rel (H : HRel k h w) (S : List Nat) : HRel (k.kill S) (kill h S) w := by
  have hF := kill_fr k w S
  refine ⟨by rw [kill_len]; exact H.n, fun id b hb => ?_, fun id hid => ?_, fun i j l m h1 h2 h3 => ?_, fun i l h1 => ?_, H.banlt, fun id hv => ?_⟩
  · rw [kill_get] at hb
    split at hb
    · cases hh : h[id]? <;> simp [hh] at hb
    · rename_i hn
      obtain ⟨l, a1, a2, a3, a4, B⟩ := H.live id b hb
      exact ⟨l, by simp [Kr.kill, hn, a1], a2, a3, a4, B.mono hF rfl⟩
  · simp only [Kr.kill]
    split
    · rfl
    · rename_i hn
      refine H.dead id fun b hb => hid b ?_
      rw [kill_get, if_neg hn]; exact hb
  · simp only [Kr.kill] at h1 h2
    split at h1
    · cases h1
    · split at h2
      · cases h2
      · exact H.inj i j l m h1 h2 h3
  · simp only [Kr.kill] at h1
    split at h1
    · cases h1
    · exact H.nob i l h1
  · obtain ⟨v1, v2⟩ := H.virlt id hv
    refine ⟨v1, ?_⟩
    simp only [Kr.kill]
    split
    · rfl
    · exact v2
theorem HRel.same {w' : World} (H : HRel k h w) (hF : Fr k w k w') (hb : ∀ b, b < w.heap.size → w'.heap[b]? = w.heap[b]?) : HRel k h w' where
  n := H.n
  live := fun id b hid => by
    obtain ⟨l, a1, a2, a3, a4, B⟩ := H.live id b hid
    exact ⟨l, a1, a2, a3, a4, B.mono hF (hb _ (H.lt a1).2)⟩
  dead := H.dead
  inj := H.inj
  nob := H.nob
  banlt := fun b hb' => Nat.lt_of_lt_of_le (H.banlt b hb') hF.size
  virlt := H.virlt
end
def PW (k : Kr) (w : World) (xs : List AV) (vs : Array Value) : Prop := xs.length = vs.size ∧ ∀ i x, xs[i]? = some x → VRel k w x (vs.getD i undef)
def Enters (P : Program) (f : Nat) : Prop := ∃ fn, P.funcs[f]? = some fn ∧ (fn.name == "runtime.NumGoroutine") = false ∧ fn.body.isNone = false
def CPost (k : Kr) (w : World) (r : AV) (h' : Heap) : Ending → World → Prop := fun e w' => ∃ v k', e = .returned v ∧ Fr k w k' w' ∧ HRel k' h' w' ∧ VRel k' w' r v
def CSound (P : Program) (C : CR) : Prop := ∀ f args h r h', C f args h = some (r, h') → Enters P f ∧ ∀ k w vargs, HRel k h w → PW k w args vargs → Calls P f vargs w (CPost k w r h')
theorem callA_sound {P : Program} {C : CR} (hC : CSound P C) {raw : Bool} {f : Nat} {args : List AV} {h h' : Heap} {r : AV} (hcall : callA C raw f args h = some (r, h')) :
    Enters P f ∧ ∀ k w vargs, HRel k h w → PW k w args vargs → Calls P f vargs w (CPost k w r h') := by
  unfold callA at hcall
  split at hcall
  · exact hC f args h r h' hcall
  · obtain ⟨args', ha, hcall⟩ := Option.bind_eq_some_iff.1 hcall
    obtain ⟨⟨q, h1⟩, hq, hcall⟩ := Option.bind_eq_some_iff.1 hcall
    obtain ⟨x, hx, hcall⟩ := Option.map_eq_some_iff.1 hcall
    simp only [Prod.mk.injEq] at hcall
    obtain ⟨rfl, rfl⟩ := hcall
    obtain ⟨hE, hS⟩ := hC f args' [] q h1 hq
    refine ⟨hE, fun k w vargs H hp => ?_⟩
    obtain ⟨m1, m2⟩ := mapM_some ha
    let S := args.flatMap (used h deep)
    let k0 : Kr := ⟨0, fun _ => none, (k.kill S).bad, fun _ => False⟩
    have hk0 : ∀ b, k0.bad b → (k.kill S).bad b := by
      rintro b (hb | ⟨id, l, h1, _⟩)
      · exact hb
      · cases h1
    have H0 : HRel k0 [] w := by
      refine ⟨rfl, fun id b hb => by simp at hb, fun id _ => rfl, fun i j l m h1 => (by cases h1), fun i l h1 => (by cases h1), fun b hb => ?_, fun id hv => hv.elim⟩
      have hb' : k.bad b := kill_bad_le hb
      rcases hb' with hb' | hb'
      · exact H.banlt b hb'
      · exact H.rng_lt hb'
    have hp' : PW k0 w args' vargs := by
      refine ⟨by rw [← m1]; exact hp.1, fun i y hy => ?_⟩
      obtain ⟨x', hx1, hx2⟩ := m2 i y hy
      have := frz_rel H S deep x' y _ hx2 (fun id hid => List.mem_flatMap.2 ⟨x', List.mem_of_getElem? hx1, hid⟩) (hp.2 i x' hx1)
      exact .frz (this.weak hk0)
    refine (hS k0 w vargs H0 hp').mono ?_
    rintro e w' ⟨v, k1, rfl, hF, H1, hv⟩
    have hF2 : Fr (k.kill S) w (k.kill S) w' := by
      refine ⟨⟨hF.os, hF.tape, hF.output, hF.size, fun b hb hr => ⟨(hF.old b hb (fun ⟨id, l, h1, _⟩ => by cases h1)).1, hr⟩, hF.shape, Nat.le_refl _, rfl, fun _ _ h => h, fun id l' _ h1 => ⟨l', h1, .inl rfl⟩⟩, fun _ _ h => h⟩
    refine ⟨v, k.kill S, rfl, (kill_fr k w S).trans hF2, (kill_rel H S).same hF2 fun b hb => (hF.old b hb (fun ⟨id, l, h1, _⟩ => by cases h1)).1, ?_⟩
    have h3 := frz_rel H1 (used h1 deep q) deep q x v hx (fun id hid => hid) hv
    refine .frz (h3.weak fun b hb => ?_)
    left
    show k1.ban b
    rw [hF.ban]
    exact hb
theorem frz_nil {h : Heap} : ∀ (n : Nat) (x y : AV), frz [] n x = some y → frz h n x = some y ∧ used h n x = [] := by
  intro n
  induction n with
  | zero => intro x y hf; simp [frz] at hf
  | succ n ih =>
    intro x y hf
    have many : ∀ (xs ys : List AV), xs.mapM (frz [] n) = some ys → xs.mapM (frz h n) = some ys ∧ xs.flatMap (used h n) = [] := by
      intro xs
      induction xs with
      | nil => intro ys h1; exact ⟨h1, rfl⟩
      | cons x xs ihx =>
        intro ys h1
        rw [List.mapM_cons] at h1
        obtain ⟨y, hy, h1⟩ := Option.bind_eq_some_iff.1 h1
        obtain ⟨zs, hz, h1⟩ := Option.bind_eq_some_iff.1 h1
        obtain ⟨a1, a2⟩ := ih x y hy
        obtain ⟨b1, b2⟩ := ihx zs hz
        refine ⟨?_, by rw [List.flatMap_cons, a2, b2]; rfl⟩
        rw [List.mapM_cons, a1, b1]
        exact h1
    cases x with
    | ref id v s off len => simp [frz, blk] at hf
    | ptr id v i j => simp [frz, blk] at hf
    | agg xs =>
      obtain ⟨ys, hys, rfl⟩ := Option.map_eq_some_iff.1 hf
      obtain ⟨a1, a2⟩ := many xs ys hys
      exact ⟨by simp only [frz, a1]; rfl, a2⟩
    | tup xs =>
      obtain ⟨ys, hys, rfl⟩ := Option.map_eq_some_iff.1 hf
      obtain ⟨a1, a2⟩ := many xs ys hys
      exact ⟨by simp only [frz, a1]; rfl, a2⟩
    | fn f fs cs =>
      simp only [frz] at hf
      obtain ⟨a, ha, hf⟩ := Option.bind_eq_some_iff.1 hf
      obtain ⟨b, hb, rfl⟩ := Option.map_eq_some_iff.1 hf
      obtain ⟨a1, a2⟩ := many fs a ha
      obtain ⟨b1, b2⟩ := many cs b hb
      exact ⟨by simp only [frz, a1, b1]; rfl, by simp only [used, a2, b2, List.append_nil]⟩
    | _ => exact ⟨hf, rfl⟩
theorem callV_callA {C : CR} {f : Nat} {args : List AV} {x : AV} (hx : callV C f args = some x) (h : Heap) : callA C false f args h = some (x, h) := by
  unfold callV at hx
  obtain ⟨a, ha, hx⟩ := Option.bind_eq_some_iff.1 hx
  obtain ⟨q, hq, hx⟩ := Option.bind_eq_some_iff.1 hx
  have many : ∀ (xs ys : List AV), xs.mapM (frz [] deep) = some ys → xs.mapM (frz h deep) = some ys ∧ xs.flatMap (used h deep) = [] := by
    intro xs
    induction xs with
    | nil => intro ys h1; exact ⟨h1, rfl⟩
    | cons x xs ihx =>
      intro ys h1
      rw [List.mapM_cons] at h1
      obtain ⟨y, hy, h1⟩ := Option.bind_eq_some_iff.1 h1
      obtain ⟨zs, hz, h1⟩ := Option.bind_eq_some_iff.1 h1
      obtain ⟨a1, a2⟩ := frz_nil (h := h) deep x y hy
      obtain ⟨b1, b2⟩ := ihx zs hz
      refine ⟨?_, by rw [List.flatMap_cons, a2, b2]; rfl⟩
      rw [List.mapM_cons, a1, b1]
      exact h1
  obtain ⟨b1, b2⟩ := many args a ha
  unfold callA
  simp only [Bool.false_eq_true, if_false]
  rw [b1, Option.bind_some, hq, Option.bind_some, hx, b2]
  rfl
end Go.AM

end
section
set_option linter.unusedVariables false
set_option linter.unusedSimpArgs false
namespace Go.AM
open Go
def atomOk : Value → AV → Bool
  | .int k n, .int k' n' => k == k' && n == n'
  | .bool b, .bool b' => b == b'
  | .string s, .str t => decide (s = t)
  | .slice none l c, .nil => l == 0 && c == 0
  | .pointer none, .nilp => true
  | .nilFunc, .nilf => true
  | _, _ => false
def all2 {α β : Type} (p : α → β → Bool) : List α → List β → Bool
  | [], [] => true
  | x :: xs, y :: ys => p x y && all2 p xs ys
  | _, _ => false
def valOk : Value → AV → Bool
  | .agg vs, .agg xs => all2 atomOk vs.toList xs
  | v, x => atomOk v x
def opdOk : Operand → Opd → Bool
  | .tmp t, .t n => t == n
  | .const v, .c x => valOk v x
  | .func f, .f g => f == g
  | _, _ => false
def optOk : Option Operand → Option Opd → Bool
  | none, none => true
  | some x, some y => opdOk x y
  | _, _ => false
theorem all2_spec {α β : Type} {p : α → β → Bool} : ∀ {xs : List α} {ys : List β}, all2 p xs ys = true → xs.length = ys.length ∧ ∀ (i : Nat) (y : β), ys[i]? = some y → ∃ x, xs[i]? = some x ∧ p x y = true := by
  intro xs
  induction xs with
  | nil => intro ys h; cases ys <;> simp [all2] at h; exact ⟨rfl, fun i y h => by simp at h⟩
  | cons x xs ih =>
    intro ys h
    cases ys with
    | nil => simp [all2] at h
    | cons y ys =>
      simp only [all2, Bool.and_eq_true] at h
      obtain ⟨h1, h2⟩ := ih h.2
      refine ⟨by simp [h1], fun i u hu => ?_⟩
      cases i with
      | zero => simp at hu; subst hu; exact ⟨x, rfl, h.1⟩
      | succ i => simp at hu; simpa using h2 i u hu
theorem atomOk_rel {v x} (h : atomOk v x = true) (bad : Nat → Prop) (w : World) : FRel bad w x v ∧ okCell x = true := by
  unfold atomOk at h
  split at h
  · simp only [Bool.and_eq_true, beq_iff_eq] at h; obtain ⟨rfl, rfl⟩ := h; exact ⟨.int _ _, rfl⟩
  · simp only [beq_iff_eq] at h; subst h; exact ⟨.bool _, rfl⟩
  · simp only [decide_eq_true_eq] at h; subst h; exact ⟨.str _, rfl⟩
  · simp only [Bool.and_eq_true, beq_iff_eq] at h; obtain ⟨rfl, rfl⟩ := h; exact ⟨.nil, rfl⟩
  · exact ⟨.nilp, rfl⟩
  · exact ⟨.nilf, rfl⟩
  · cases h
theorem valOk_rel {v x} (h : valOk v x = true) (k : Kr) (w : World) : VRel k w x v ∧ (cells x).all okCell = true := by
  unfold valOk at h
  split at h
  · rename_i vs xs
    obtain ⟨h1, h2⟩ := all2_spec h
    refine ⟨.frz (.agg xs vs (by rw [← h1]; simp) fun i x hx => ?_), List.all_eq_true.2 fun y hy => ?_⟩
    · obtain ⟨v, hv, ha⟩ := h2 i x hx
      have : vs.getD i undef = v := by
        rw [Array.getElem?_toList] at hv
        simp [Array.getD_eq_getD_getElem?, hv]
      rw [this]
      exact (atomOk_rel ha _ w).1
    · obtain ⟨i, hi⟩ := List.getElem?_of_mem hy
      obtain ⟨v, hv, ha⟩ := h2 i y hi
      exact (atomOk_rel ha (fun _ => False) w).2
  · obtain ⟨h1, h2⟩ := atomOk_rel h k.bad w
    refine ⟨.frz h1, ?_⟩
    cases x <;> first | (simp [cells, h2]; done) | cases h2
def elemOf? (P : Program) (t : TypeId) : Option TypeId :=
  match P.underlying t with
  | some (.slice e) => some e
  | _ => none
theorem elemOf_some {P : Program} {t e} (h : elemOf? P t = some e) : P.underlying t = some (.slice e) := by
  unfold elemOf? at h
  split at h
  · simp only [Option.some.injEq] at h; subst h; assumption
  · cases h
def zeroOk (P : Program) (e : TypeId) (s : Nat) (z : AV) : Bool :=
  match P.info? e with
  | some i => match i.zero with
    | some zv => valOk zv z && i.size == s && (cells z).length == s
    | none => false
  | none => false
theorem zeroOk_some {P : Program} {e s z} (h : zeroOk P e s z = true) : ∃ i zv, P.info? e = some i ∧ i.zero = some zv ∧ valOk zv z = true ∧ i.size = s ∧ (cells z).length = s := by
  unfold zeroOk at h
  split at h
  · rename_i i hi
    split at h
    · rename_i zv hz
      simp only [Bool.and_eq_true, beq_iff_eq] at h
      exact ⟨i, zv, hi, hz, h.1.1, h.1.2, h.2⟩
    · cases h
  · cases h
def sizeOk (P : Program) (e : TypeId) (s : Nat) : Bool := (P.info? e).any fun i => i.size == s
def limOk (P : Program) (e : TypeId) (lim : Nat) : Bool := (P.info? e).any fun i => decide (lim * i.bytes ≤ 140737488355328) && decide (lim ≤ 9223372036854775807)
def limOk2 (P : Program) (e : TypeId) (lim : Nat) : Bool := (P.info? e).any fun i => decide (lim * i.bytes ≤ 281474976710656) && decide (lim ≤ 9223372036854775807)
def goodElem (P : Program) (e : TypeId) (s lim : Nat) : Bool :=
  match P.info? e with
  | some i => match i.zero with
    | some zv => zv.cells.size == i.size && i.size == s && decide (lim * i.bytes ≤ 140737488355328) && decide (lim ≤ 9223372036854775807)
    | none => false
  | none => false
def fieldOk (P : Program) (t : TypeId) (f off s : Nat) (ag : Bool) : Bool :=
  match P.underlying t with
  | some (.struct fs) => match fs[f]? with
    | some fd => fd.offset == off && decide (tySz P fd.type = some (s, ag)) && s != 0
    | none => false
  | _ => false
def arrOk (P : Program) (t : TypeId) (n s : Nat) (ag : Bool) : Bool :=
  match P.underlying t with
  | some (.array m e) => m == n && decide (tySz P e = some (s, ag))
  | _ => false
def places (P : Program) (t : TypeId) : Option (Value × (Nat → Option (Nat × Nat))) :=
  match P.info? t, P.underlying t with
  | some it, some (.array _ e) => match it.zero, P.info? e with
    | some z, some ie => some (z, fun i => some (i * ie.size, ie.size))
    | _, _ => none
  | some it, some (.struct fields) => match it.zero, fields.toList.mapM (fun f => (P.info? f.type).map fun i => (f.offset, i.size)) with
    | some z, some ps => some (z, fun i => ps.toArray[i]?)
    | _, _ => none
  | _, _ => none
def buildOk (P : Program) (t : TypeId) (ps : List (Nat × Operand)) (z : List AV) (qs : List (Nat × Nat × Opd)) : Bool :=
  match places P t with
  | some (zv, place) => valOk zv (.agg z) && all2 (fun p q => decide (place p.1 = some (q.1, q.2.1)) && opdOk p.2 q.2.2) ps qs
  | none => false
def intTy (P : Program) (t : TypeId) : Option IntKind :=
  match P.underlying t with
  | some (.int k) => some k
  | _ => none
def eqTy (P : Program) (t : TypeId) : Nat :=
  match P.underlying t with
  | some .bool => 1
  | some (.pointer _) => 2
  | some (.slice _) => 3
  | some (.func _ _ _) => 4
  | _ => 0
def chkOp (P : Program) : Op → AOp → Bool
  | .move x, .mv y => opdOk x y
  | .assign x, .mv y => opdOk x y
  | .pick c a b, .pick c' a' b' => opdOk c c' && opdOk a a' && opdOk b b'
  | .binOp op _ x y _, .bin op' x' y' => op == op' && opdOk x x' && opdOk y y'
  | .binOp op t x y _, .eqs ty neg x' y' => op == (if neg then .neq else .eql) && opdOk x x' && opdOk y y' && eqTy P t == ty && ty != 0
  | .unOp op _ x, .un op' x' => op == op' && opdOk x x'
  | .convert s d x, .conv k x' => (intTy P s).isSome && decide (intTy P d = some k) && opdOk x x'
  | .alloc t, .alloc z => zeroOk P t (cells z).length z
  | .box _ x, .box x' => opdOk x x'
  | .build t ps, .build z qs => buildOk P t ps.toList z qs
  | .buildSlice t n ps, .bslice n' s z qs => match elemOf? P t with
    | some e => n == n' && zeroOk P e s z && decide (n * s ≤ 16777216) && decide (0 < s) && all2 (fun p q => p.1 == q.1 && opdOk p.2 q.2) ps.toList qs
    | none => false
  | .buildSlice t n ps, .bslicef n' s z qs => match elemOf? P t with
    | some e => n == n' && zeroOk P e s z && decide (n * s ≤ 16777216) && decide (0 < s) && all2 (fun p q => p.1 == q.1 && opdOk p.2 q.2) ps.toList qs
    | none => false
  | .buildSlice t n ps, .bslicev n' s z qs => match elemOf? P t with
    | some e => n == n' && zeroOk P e s z && decide (n * s ≤ 16777216) && decide (0 < s) && all2 (fun p q => p.1 == q.1 && opdOk p.2 q.2) ps.toList qs
    | none => false
  | .buildSlice t n ps, .emp0 => match elemOf? P t with
    | some e => n == 0 && ps.isEmpty && (match P.info? e with | some i => i.zero.isSome | none => false)
    | none => false
  | .load t a, .load s ag a' => decide (tySz P t = some (s, ag)) && opdOk a a'
  | .store t a x, .store s a' x' => (tySz P t).any (fun q => q.1 == s) && opdOk a a' && opdOk x x'
  | .fieldAddr t x f, .faddr off s ag x' => fieldOk P t f off s ag && opdOk x x'
  | .field t x f, .fld off s ag x' => fieldOk P t f off s ag && opdOk x x'
  | .indexAddr t x i, .iadr s x' i' => (elemOf? P t).any (fun e => sizeOk P e s) && opdOk x x' && opdOk i i'
  | .indexAddr t x i, .aadr n s ag x' i' => arrOk P t n s ag && opdOk x x' && opdOk i i'
  | .index t x i, .aidx n s ag x' i' => arrOk P t n s ag && opdOk x x' && opdOk i i'
  | .slice t x lo hi mx, .slice s x' lo' hi' mx' => (elemOf? P t).any (fun e => sizeOk P e s) && opdOk x x' && optOk lo lo' && optOk hi hi' && optOk mx mx'
  | .makeSlice t l c, .mk s lim z l' c' => (elemOf? P t).any (fun e => zeroOk P e s z && limOk2 P e lim) && opdOk l l' && opdOk c c'
  | .extract x i, .ext i' x' => i == i' && opdOk x x'
  | .nilCheck x, .nilc x' => opdOk x x'
  | .makeFunc (.func f) fs cs, .mkfn f' fs' cs' => f == f' && all2 opdOk fs.toList fs' && all2 opdOk cs.toList cs'
  | .call { callee := .builtin .len, args, argTypes }, .len st x' => match args.toList, argTypes.toList with
    | [x], [t] => opdOk x x' && (if st then (match P.underlying t with | some .string => true | _ => false) else (elemOf? P t).isSome)
    | _, _ => false
  | .call { callee := .builtin .cap, args, argTypes }, .cap x' => match args.toList, argTypes.toList with
    | [x], [t] => opdOk x x' && (elemOf? P t).isSome
    | _, _ => false
  | .call { callee := .builtin .append, args, argTypes }, .app s lim x' y' => match args.toList, argTypes.toList with
    | [x, y], [t, u] => opdOk x x' && opdOk y y' && (elemOf? P t).any (fun e => goodElem P e s lim) && (elemOf? P u).isSome
    | _, _ => false
  | .call { callee := .builtin .append, args, argTypes }, .appz s lim z x' n' => match args.toList, argTypes.toList with
    | [x, n], [t, u] => opdOk x x' && opdOk n n' && (elemOf? P t).any (fun e => zeroOk P e s z && limOk P e lim) && (intTy P u).isSome
    | _, _ => false
  | .call { callee := .builtin .copy, args, argTypes }, .copy s x' y' => match args.toList, argTypes.toList with
    | [x, y], [t, _] => opdOk x x' && opdOk y y' && (elemOf? P t).any (fun e => sizeOk P e s)
    | _, _ => false
  | .call { callee := .builtin .max, args, argTypes := _ }, .mm true x' xs' => all2 opdOk args.toList (x' :: xs')
  | .call { callee := .builtin .min, args, argTypes := _ }, .mm false x' xs' => all2 opdOk args.toList (x' :: xs')
  | .call { callee := .value (.func f), args, argTypes := _ }, .call _ f' xs' => f == f' && all2 opdOk args.toList xs'
  | .call { callee := .value (.func f), args, argTypes := _ }, .callp f' xs' => f == f' && all2 opdOk args.toList xs'
  | .call { callee := .value (.func f), args, argTypes := _ }, .clone f' x' => match args.toList with
    | [x] => f == f' && opdOk x x'
    | _ => false
  | .call { callee := .value (.func f), args, argTypes := _ }, .clonev f' x' => match args.toList with
    | [x] => f == f' && opdOk x x'
    | _ => false
  | .call { callee := .value x, args, argTypes := _ }, .callv _ x' xs' => opdOk x x' && all2 opdOk args.toList xs'
  | _, .fail => true
  | _, _ => false
end Go.AM

end
section
set_option linter.unusedVariables false
set_option linter.unusedSimpArgs false
namespace Go.AM
open Go
def OPost (P : Program) (k : Kr) (w : World) (ρ : Operand → Value) (o : Oper) (x : AV) (h' : Heap) : Prop :=
  (∃ v w' k', ((execOp ρ o).run P w = .ok (.value v) w' ∨ (execOp ρ o).run P w = .ok .skip w' ∧ v = undef) ∧ Fr k w k' w' ∧ HRel k' h' w' ∧ VRel k' w' x v) ∨
  (∃ f vargs, (execOp ρ o).run P w = .ok (.enter f vargs) w ∧ Calls P f vargs w (CPost k w x h'))
section
variable {P : Program} {k : Kr} {h h' : Heap} {w : World} {ρ : Operand → Value} {ρA : Opd → AV} {x : AV}
theorem OPost.light (H : HRel k h w) {o : Oper} {v : Value} (hr : (execOp ρ o).run P w = .ok (.value v) w) (hv : VRel k w x v) : OPost P k w ρ o x h :=
  .inl ⟨v, w, k, .inl hr, Fr.refl k w, H, hv⟩
theorem bin_sound {op : BinOp} {t : TypeId} {ox oy : Operand} {va vb : Value} {a b : AV} (ha : VRel k w a va) (hb : VRel k w b vb) (hx : binA op a b = some x) :
    ∃ v, (do eqGuard op t ox oy va vb; binOp op t va vb : Sem Value).run P w = .ok v w ∧ VRel k w x v := by
  unfold binA at hx
  split at hx
  · rename_i kk n kk' m
    obtain rfl := ha.int_inv
    obtain rfl := hb.int_inv
    cases op
    all_goals dsimp only at hx
    all_goals (try (split at hx <;> first | cases hx | skip))
    all_goals (try (split at hx <;> first | cases hx | skip))
    all_goals (try (simp only [Option.some.injEq] at hx; subst hx))
    all_goals (try subst_vars)
    all_goals refine ⟨_, ?_, .frz (by first | exact .int _ _ | exact .bool _)⟩
    all_goals first
      | (simp [eqGuard, binOp, Op.intArith]; done)
      | (simp [eqGuard, binOp, Op.intDiv, *]; done)
      | (simp [eqGuard, binOp, Op.intBits]; done)
      | (simp [eqGuard, binOp, Op.intCmp, Int.instDecidableEq]; done)
      | (simp [eqGuard, binOp, Op.shift, *]; done)
      | (simp [eqGuard, binOp, Op.intCmp]; rfl)
      | skip
  · rename_i s t
    obtain rfl := ha.str_inv
    obtain rfl := hb.str_inv
    cases op <;> simp only [Option.some.injEq, reduceCtorEq] at hx <;> subst hx <;> refine ⟨_, ?_, .frz (.bool _)⟩ <;> simp [eqGuard, binOp, Op.stringOp]
  · cases hx
theorem eqIn_bool (d : Nat) {t : TypeId} (hu : P.underlying t = some .bool) (a b : Bool) : (Op.equalIn (d + 1) t (.bool a) (.bool b)).run P w = .ok (a == b) w := by simp [Op.equalIn, run_underlying hu]
theorem eqIn_ptr (d : Nat) {t e : TypeId} (hu : P.underlying t = some (.pointer e)) (a : Option Addr) : (Op.equalIn (d + 1) t (.pointer a) (.pointer none)).run P w = .ok a.isNone w := by
  cases a <;> simp [Op.equalIn, run_underlying hu]
theorem eqIn_slice (d : Nat) {t e : TypeId} (hu : P.underlying t = some (.slice e)) (a : Option Addr) (l c : Nat) : (Op.equalIn (d + 1) t (.slice a l c) (.slice none 0 0)).run P w = .ok a.isNone w := by
  cases a <;> simp [Op.equalIn, run_underlying hu]
theorem eqIn_func (d : Nat) {t : TypeId} {p r : Array TypeId} {q : Bool} (hu : P.underlying t = some (.func p r q)) : (Op.equalIn (d + 1) t .nilFunc .nilFunc).run P w = .ok true w := by
  simp [Op.equalIn, run_underlying hu]
theorem eqIn_func' (d : Nat) {t : TypeId} {p r : Array TypeId} {q : Bool} (hu : P.underlying t = some (.func p r q)) (fn : Fn) (a b : Array Value) : (Op.equalIn (d + 1) t (.func fn a b) .nilFunc).run P w = .ok false w := by
  simp [Op.equalIn, run_underlying hu]
theorem VRel.lst_some {k : Kr} {w : World} {y : AV} {ys : List AV} {v : Value} (H : VRel k w (.lst (y :: ys)) v) : ∃ a n cap, v = .slice (some a) n cap ∧ 0 < cap := by
  cases H with
  | frz h =>
    cases h with
    | lst _ a cap s vs hl hs hb hz hc hr => exact ⟨a, _, cap, rfl, by simp at hl; omega⟩
theorem eqs_sound {ty : Nat} {neg : Bool} {t : TypeId} {ox oy : Operand} {va vb : Value} {a b : AV} {r : Bool} (hty : eqTy P t = ty) (ha : VRel k w a va) (hb : VRel k w b vb) (hx : eqA ty a b = some r) :
    (do eqGuard (if neg then .neq else .eql) t ox oy va vb; binOp (if neg then .neq else .eql) t va vb : Sem Value).run P w = .ok (.bool (if neg then !r else r)) w := by
  unfold eqTy at hty
  unfold eqA at hx
  split at hx
  · obtain rfl := ha.bool_inv
    obtain rfl := hb.bool_inv
    simp only [Option.some.injEq] at hx
    subst hx
    split at hty <;> first | (cases hty; done) | skip
    rename_i hu
    have he : ∀ a b, (Op.equal t (.bool a) (.bool b)).run P w = .ok (a == b) w := fun a b => eqIn_bool 9999 hu a b
    cases neg <;> simp [eqGuard, binOp, he]
  · obtain rfl := ha.nilp_inv
    obtain rfl := hb.nilp_inv
    simp only [Option.some.injEq] at hx
    subst hx
    split at hty <;> first | (cases hty; done) | skip
    rename_i hu
    have he : ∀ a, (Op.equal t (.pointer a) (.pointer none)).run P w = .ok a.isNone w := fun a => eqIn_ptr 9999 hu a
    cases neg <;> simp [eqGuard, binOp, he]
  · obtain ⟨ad, rfl, _⟩ := ha.ptr_inv
    obtain rfl := hb.nilp_inv
    simp only [Option.some.injEq] at hx
    subst hx
    split at hty <;> first | (cases hty; done) | skip
    rename_i hu
    have he : ∀ a, (Op.equal t (.pointer a) (.pointer none)).run P w = .ok a.isNone w := fun a => eqIn_ptr 9999 hu a
    cases neg <;> simp [eqGuard, binOp, he]
  · obtain ⟨ad, rfl, _⟩ := ha.fad_inv
    obtain rfl := hb.nilp_inv
    simp only [Option.some.injEq] at hx
    subst hx
    split at hty <;> first | (cases hty; done) | skip
    rename_i hu
    have he : ∀ a, (Op.equal t (.pointer a) (.pointer none)).run P w = .ok a.isNone w := fun a => eqIn_ptr 9999 hu a
    cases neg <;> simp [eqGuard, binOp, he]
  · obtain rfl := ha.nil_inv
    obtain rfl := hb.nil_inv
    simp only [Option.some.injEq] at hx
    subst hx
    split at hty <;> first | (cases hty; done) | skip
    rename_i hu
    have he : ∀ a l c, (Op.equal t (.slice a l c) (.slice none 0 0)).run P w = .ok a.isNone w := fun a l c => eqIn_slice 9999 hu a l c
    cases neg <;> simp [eqGuard, binOp, he]
  · obtain ⟨ad, cap, rfl, _⟩ := ha.emp_inv
    obtain rfl := hb.nil_inv
    simp only [Option.some.injEq] at hx
    subst hx
    split at hty <;> first | (cases hty; done) | skip
    rename_i hu
    have he : ∀ a l c, (Op.equal t (.slice a l c) (.slice none 0 0)).run P w = .ok a.isNone w := fun a l c => eqIn_slice 9999 hu a l c
    cases neg <;> simp [eqGuard, binOp, he]
  · obtain ⟨ad, n, cap, rfl, _⟩ := ha.lst_some
    obtain rfl := hb.nil_inv
    simp only [Option.some.injEq] at hx
    subst hx
    split at hty <;> first | (cases hty; done) | skip
    rename_i hu
    have he : ∀ a l c, (Op.equal t (.slice a l c) (.slice none 0 0)).run P w = .ok a.isNone w := fun a l c => eqIn_slice 9999 hu a l c
    cases neg <;> simp [eqGuard, binOp, he]
  · obtain ⟨ad, cap, rfl, _⟩ := ha.ref_inv
    obtain rfl := hb.nil_inv
    simp only [Option.some.injEq] at hx
    subst hx
    split at hty <;> first | (cases hty; done) | skip
    rename_i hu
    have he : ∀ a l c, (Op.equal t (.slice a l c) (.slice none 0 0)).run P w = .ok a.isNone w := fun a l c => eqIn_slice 9999 hu a l c
    cases neg <;> simp [eqGuard, binOp, he]
  · obtain rfl := ha.nilf_inv
    obtain rfl := hb.nilf_inv
    simp only [Option.some.injEq] at hx
    subst hx
    split at hty <;> first | (cases hty; done) | skip
    rename_i hu
    have he : (Op.equal t .nilFunc .nilFunc).run P w = .ok true w := eqIn_func 9999 hu
    cases neg <;> simp [eqGuard, binOp, he]
  · obtain ⟨vf, vc, rfl, _⟩ := ha.fn_inv
    obtain rfl := hb.nilf_inv
    simp only [Option.some.injEq] at hx
    subst hx
    split at hty <;> first | (cases hty; done) | skip
    rename_i hu
    have he : ∀ f a b, (Op.equal t (.func f a b) .nilFunc).run P w = .ok false w := fun f a b => eqIn_func' 9999 hu f a b
    cases neg <;> simp [eqGuard, binOp, he]
  · cases hx
theorem un_sound {op : UnOp} {va : Value} {a : AV} (ha : VRel k w a va) (hx : unA op a = some x) : ∃ v, (Op.unary op va).run P w = .ok v w ∧ VRel k w x v := by
  unfold unA at hx
  split at hx
  · obtain rfl := ha.int_inv
    split at hx <;> first | cases hx | skip
    all_goals refine ⟨_, ?_, .frz (.int _ _)⟩
    · simp [Op.unary, Op.intArith]
    · simp [Op.unary, Op.intBits]
  · obtain rfl := ha.bool_inv
    split at hx <;> first | cases hx | skip
    exact ⟨_, by simp [Op.unary], .frz (.bool _)⟩
  · cases hx
theorem mm_sound (mx : Bool) : ∀ (xs : List AV) (a : AV) (va : Value) (vs : List Value), VRel k w a va → xs.length = vs.length → (∀ (i : Nat) (y : AV), xs[i]? = some y → VRel k w y (vs.getD i undef)) → mmAll mx a xs = some x →
    ∃ v, (vs.foldlM (if mx then Builtin.max2 else Builtin.min2) va).run P w = .ok v w ∧ VRel k w x v := by
  intro xs
  induction xs with
  | nil =>
    intro a va vs ha hl hr hx
    obtain rfl : vs = [] := List.eq_nil_of_length_eq_zero (by simpa using hl.symm)
    obtain rfl : a = x := by simpa [mmAll] using hx
    exact ⟨va, by simp, ha⟩
  | cons y ys ih =>
    intro a va vs ha hl hr hx
    cases vs with
    | nil => simp at hl
    | cons u us =>
      simp only [mmAll] at hx
      obtain ⟨z, hz, hx⟩ := Option.bind_eq_some_iff.1 hx
      have hu := hr 0 y rfl
      simp only [List.getD_cons_zero] at hu
      unfold mm2 at hz
      split at hz
      · rename_i kk n kk' m
        obtain rfl := ha.int_inv
        obtain rfl := hu.int_inv
        simp only [Option.some.injEq] at hz
        subst hz
        obtain ⟨v, h1, h2⟩ := ih _ (.int kk (if mx = true then (if m > n then m else n) else if m < n then m else n)) us (.frz (.int _ _)) (by simpa using hl) (fun i y hy => by simpa using hr (i + 1) y (by simpa using hy)) hx
        refine ⟨v, ?_, h2⟩
        cases mx <;> simp [List.foldlM_cons, Builtin.max2, Builtin.min2] at h1 ⊢ <;> exact h1
      · cases hz
def ORel (k : Kr) (w : World) : Option AV → Option Value → Prop
  | none, none => True
  | some x, some v => VRel k w x v
  | _, _ => False
theorem bnd_run {y : AV} {n b m : Nat} {v : Value} {code : BoundsCode} (hv : VRel k w y v) (hb : bndA y n = some b) (hm : n ≤ m) : (Instr.sliceBound v m code).run P w = .ok b w ∧ b ≤ n := by
  unfold bndA at hb
  split at hb
  · obtain rfl := hv.int_inv
    split at hb
    · rename_i hc
      simp only [Option.some.injEq] at hb
      subst hb
      have h2 := Int.le_trans hc.2 (show (n : Int) ≤ m by omega)
      exact ⟨by simp [Instr.sliceBound, asIntOf, hc.1, h2], by omega⟩
    · cases hb
  · cases hb
theorem slice_run {t e : TypeId} {s len cap : Nat} {a : Option Addr} (ht : P.underlying t = some (.slice e)) (hs : sizeOk P e s = true) {lo hi : Option AV} {vlo vhi : Option Value} (hlo : ORel k w lo vlo) (hhi : ORel k w hi vhi) (hlc : len ≤ cap)
    {b q : Nat} (h1 : bndO hi len len = some q) (h2 : bndO lo q 0 = some b) :
    (Instr.sliceAt t (.slice a len cap) vlo vhi none).run P w = .ok (.slice (if cap = b then a else a.map (·.add (b * s))) (q - b) (cap - b)) w ∧ b ≤ q ∧ q ≤ len := by
  obtain ⟨i, hi', hsz⟩ : ∃ i, P.info? e = some i ∧ i.size = s := by
    unfold sizeOk at hs
    cases hh : P.info? e with
    | none => simp [hh] at hs
    | some i => exact ⟨i, rfl, by simpa [hh] using hs⟩
  have hq : q ≤ len ∧ (match vhi with | some v => Instr.sliceBound v cap .sliceAcap | none => Pure.pure len).run P w = .ok q w := by
    cases hi with
    | none => cases vhi with
      | none => simp only [bndO, Option.some.injEq] at h1; subst h1; exact ⟨Nat.le_refl _, rfl⟩
      | some v => cases hhi
    | some y => cases vhi with
      | none => cases hhi
      | some v =>
        obtain ⟨g1, g2⟩ := bnd_run (P := P) (code := .sliceAcap) hhi h1 hlc
        exact ⟨g2, g1⟩
  have hb : b ≤ q ∧ (match vlo with | some v => Instr.sliceBound v q .sliceB | none => Pure.pure 0).run P w = .ok b w := by
    cases lo with
    | none => cases vlo with
      | none => simp only [bndO, Option.some.injEq] at h2; subst h2; exact ⟨Nat.zero_le _, rfl⟩
      | some v => cases hlo
    | some y => cases vlo with
      | none => cases hlo
      | some v =>
        obtain ⟨g1, g2⟩ := bnd_run (P := P) (code := .sliceB) hlo h2 (Nat.le_refl _)
        exact ⟨g2, g1⟩
  refine ⟨?_, hb.1, hq.1⟩
  cases vhi <;> cases vlo <;> simp only [] at hq hb
  all_goals simp [Instr.sliceAt, Instr.slice, run_underlying ht, Instr.sliceBounds, hq.2, hb.2, sizeOf, typeInfo, hi', hsz]
  all_goals (try (obtain ⟨_, hq⟩ := hq; simp at hq; subst hq))
  all_goals (try (obtain ⟨_, hb⟩ := hb; simp at hb; subst hb))
  all_goals (try simp_all)
theorem slice_sound {t e : TypeId} {s : Nat} (ht : P.underlying t = some (.slice e)) (hs : sizeOk P e s = true) {a : AV} {va : Value} {lo hi mx : Option AV} {vlo vhi vmx : Option Value} (ha : VRel k w a va) (hlo : ORel k w lo vlo) (hhi : ORel k w hi vhi) (hmx : ORel k w mx vmx)
    (hx : sliceA s a lo hi mx = some x) : ∃ v, (Instr.sliceAt t va vlo vhi vmx).run P w = .ok v w ∧ VRel k w x v := by
  cases mx with
  | none =>
    cases vmx with
    | some v => cases hmx
    | none =>
      simp only [sliceA] at hx
      cases a with
      | nil =>
        simp only at hx
        obtain ⟨q, hq, hx⟩ := Option.bind_eq_some_iff.1 hx
        obtain ⟨b, hb, hx⟩ := Option.bind_eq_some_iff.1 hx
        simp only [Option.some.injEq] at hx
        subst hx
        obtain rfl := ha.nil_inv
        obtain ⟨g1, g2, g3⟩ := slice_run (P := P) (a := none) ht hs hlo hhi (Nat.le_refl 0) hq hb
        refine ⟨_, g1, ?_⟩
        have hq0 : q = 0 := by omega
        have hb0 : b = 0 := by omega
        subst hq0
        subst hb0
        exact .frz .nil
      | emp c =>
        simp only at hx
        obtain ⟨q, hq, hx⟩ := Option.bind_eq_some_iff.1 hx
        obtain ⟨b, hb, hx⟩ := Option.bind_eq_some_iff.1 hx
        simp only [Option.some.injEq] at hx
        subst hx
        obtain ⟨ad, cap, rfl, hc⟩ := ha.emp_inv
        obtain ⟨g1, g2, g3⟩ := slice_run (P := P) (a := some ad) ht hs hlo hhi (Nat.zero_le cap) hq hb
        refine ⟨_, g1, ?_⟩
        have hq0 : q = 0 := by omega
        have hb0 : b = 0 := by omega
        subst hq0
        subst hb0
        have : (if cap = 0 then some ad else (some ad).map (·.add (0 * s))) = some ad := by
          split
          · rfl
          · simp only [Nat.zero_mul]; rfl
        rw [this]
        exact .frz (.emp c ad _ fun h => by rw [hc h])
      | zero =>
        simp only at hx
        obtain ⟨q, hq, hx⟩ := Option.bind_eq_some_iff.1 hx
        obtain ⟨b, hb, hx⟩ := Option.bind_eq_some_iff.1 hx
        simp only [Option.some.injEq] at hx
        subst hx
        obtain ⟨ad, rfl⟩ := ha.zero_inv
        obtain ⟨g1, g2, g3⟩ := slice_run (P := P) (a := ad) ht hs hlo hhi (Nat.le_refl 0) hq hb
        refine ⟨_, g1, ?_⟩
        have hq0 : q = 0 := by omega
        have hb0 : b = 0 := by omega
        subst hq0
        subst hb0
        simp only [if_true]
        exact .frz (.zero ad)
      | lst xs =>
        simp only at hx
        split at hx
        · rename_i hok
          obtain ⟨q, hq, hx⟩ := Option.bind_eq_some_iff.1 hx
          obtain ⟨b, hb, hx⟩ := Option.bind_eq_some_iff.1 hx
          simp only [Option.some.injEq] at hx
          subst hx
          cases ha with
          | frz ha =>
            cases ha with
            | lst0 ad cap hn =>
              obtain ⟨g1, g2, g3⟩ := slice_run (P := P) (a := ad) ht hs hlo hhi (Nat.zero_le cap) hq hb
              refine ⟨_, g1, ?_⟩
              have g3' : q ≤ 0 := g3
              have hq0 : q = 0 := by omega
              subst hq0
              simp only [sub, List.drop_nil, List.take_nil, Nat.zero_sub]
              refine .frz (.lst0 _ _ fun hx => ?_)
              split at hx
              · omega
              · cases ad with
                | none => have := hn rfl; omega
                | some ad => cases hx
            | lst _ ad cap s' vs hl hs' hb' hz hc hr =>
              obtain ⟨g1, g2, g3⟩ := slice_run (P := P) (a := some ad) ht hs hlo hhi hl hq hb
              refine ⟨_, g1, ?_⟩
              have hsl : (sub xs b (q - b)).length = q - b := by simp [sub]; omega
              by_cases h0 : q - b = 0
              · have hnil : sub xs b (q - b) = [] := List.eq_nil_of_length_eq_zero (by omega)
                rw [hnil, h0]
                refine .frz (.lst0 _ _ fun hx => ?_)
                split at hx <;> cases hx
              · have hne : ¬ cap = b := by omega
                rw [if_neg hne]
                have hss : s' = s := by
                  have h1 : 0 < xs.length := by omega
                  rw [← hs' xs[0] (List.getElem_mem h1)]
                  exact (okS_mem hok (List.getElem_mem h1)).1
                subst hss
                have := FRel.lst (bad := k.bad) (w := w) (sub xs b (q - b)) (ad.add (b * s')) (cap - b) s' (fun i j => vs (b + i) j) (by omega) (fun e he => hs' e (List.mem_of_mem_drop (List.mem_of_mem_take he))) (by rw [add_block]; exact hb') (by rw [add_block]; exact hz)
                  (fun i j hi hj => by
                    rw [add_add, ← hc (b + i) j (by omega) hj]
                    congr 2
                    rw [Nat.add_mul]; omega)
                  (fun i j e x hi hj => hr (b + i) j e x (sub_get hi).1 hj)
                rw [hsl] at this
                exact .frz this
        · cases hx
      | ref id vv s' off len =>
        simp only at hx
        split at hx
        · rename_i hss
          subst hss
          obtain ⟨q, hq, hx⟩ := Option.bind_eq_some_iff.1 hx
          obtain ⟨b, hb, hx⟩ := Option.bind_eq_some_iff.1 hx
          simp only [Option.some.injEq] at hx
          subst hx
          obtain ⟨ad, cap, rfl, hid, hlc, hl⟩ := ha.ref_inv
          obtain ⟨g1, g2, g3⟩ := slice_run (P := P) (a := some ad) ht hs hlo hhi hlc hq hb
          refine ⟨_, g1, ?_⟩
          have hsm : (if cap = b then some ad else (some ad).map (·.add (b * s'))) = some (if cap = b then ad else ad.add (b * s')) := by split <;> rfl
          rw [hsm]
          refine .ref id vv s' (off + b) (q - b) _ (cap - b) hid (by omega) fun l hl' => ?_
          obtain ⟨p1, p2⟩ := hl l hl'
          refine ⟨p1, fun hv => ?_⟩
          obtain ⟨p3, p4, p5⟩ := p2 hv
          refine ⟨p3, by omega, ?_⟩
          by_cases hcb : cap = b
          · right; omega
          · rw [if_neg hcb]
            rcases p5 with ⟨rfl, c, e', f, hc, hfit⟩ | ⟨h1, h2⟩
            · left
              refine ⟨by rw [add_mk]; simp only [Addr.mk.injEq, true_and, and_true]; rw [Nat.add_mul]; omega, c, e', f, hc, ?_⟩
              rw [show off + b + (cap - b) = off + cap by omega]
              exact hfit
            · right; omega
        · cases hx
      | _ => simp at hx
  | some m =>
    cases vmx with
    | none => cases hmx
    | some vm =>
      have hm : VRel k w m vm := hmx
      obtain ⟨i, hi', hsz⟩ : ∃ i, P.info? e = some i ∧ i.size = s := by
        unfold sizeOk at hs
        cases hh : P.info? e with
        | none => simp [hh] at hs
        | some i => exact ⟨i, rfl, by simpa [hh] using hs⟩
      have fin : ∀ (a : AV) (va : Value), VRel k w a va → (match a with | .nil => some AV.nil | .emp _ => some (.emp true) | .lst (_ :: _) => some (.emp true) | .ref .. => some (.emp true) | _ => none) = some x →
          ∃ ad n cap, va = .slice ad n cap ∧ VRel k w x (.slice ad 0 0) := by
        intro a va ha hx
        split at hx
        · obtain rfl := ha.nil_inv
          simp only [Option.some.injEq] at hx; subst hx
          exact ⟨none, 0, 0, rfl, .frz .nil⟩
        · obtain ⟨ad, cap, rfl, _⟩ := ha.emp_inv
          simp only [Option.some.injEq] at hx; subst hx
          exact ⟨some ad, 0, cap, rfl, .frz (.emp true ad 0 fun _ => rfl)⟩
        · obtain ⟨ad, n, cap, rfl, _⟩ := ha.lst_some
          simp only [Option.some.injEq] at hx; subst hx
          exact ⟨some ad, n, cap, rfl, .frz (.emp true ad 0 fun _ => rfl)⟩
        · obtain ⟨ad, cap, rfl, _⟩ := ha.ref_inv
          simp only [Option.some.injEq] at hx; subst hx
          exact ⟨some ad, _, cap, rfl, .frz (.emp true ad 0 fun _ => rfl)⟩
        · cases hx
      unfold sliceA at hx
      split at hx
      · rename_i hq; cases hq
      · rename_i kk mm hq
        simp only [Option.some.injEq] at hq
        subst hq
        obtain rfl := hm.int_inv
        split at hx
        · rename_i k1 l k2 ee
          split at hx
          · rename_i hc
            obtain ⟨rfl, rfl, rfl⟩ := hc
            obtain ⟨ad, n, cap, rfl, hv⟩ := fin a va ha hx
            cases vlo with
            | none => cases hlo
            | some vl =>
              cases vhi with
              | none => cases hhi
              | some vh =>
                obtain rfl := VRel.int_inv hlo
                obtain rfl := VRel.int_inv hhi
                refine ⟨_, ?_, hv⟩
                simp [Instr.sliceAt, Instr.slice, run_underlying ht, Instr.sliceBounds, Instr.sliceBound, asIntOf, sizeOf, typeInfo, hi']
                try omega
          · cases hx
        · rename_i k2 ee
          split at hx
          · rename_i hc
            obtain ⟨rfl, rfl⟩ := hc
            obtain ⟨ad, n, cap, rfl, hv⟩ := fin a va ha hx
            cases vlo with
            | some vl => cases hlo
            | none =>
              cases vhi with
              | none => cases hhi
              | some vh =>
                obtain rfl := VRel.int_inv hhi
                refine ⟨_, ?_, hv⟩
                simp [Instr.sliceAt, Instr.slice, run_underlying ht, Instr.sliceBounds, Instr.sliceBound, asIntOf, sizeOf, typeInfo, hi']
                try omega
          · cases hx
        · cases hx
      · cases hx
end
end Go.AM

end
section
set_option linter.unusedVariables false
set_option linter.unusedSimpArgs false
namespace Go.AM
open Go
section
variable {P : Program} {k : Kr} {h h' : Heap} {w : World}
theorem fold_set (off : Nat) : ∀ (cs : List Value) (j0 : Nat) (a : Array Value), off + j0 + cs.length ≤ a.size →
    ((cs.zipIdx j0).foldl (fun (acc : Array Value) (p : Value × Nat) => acc.setIfInBounds (off + p.2) p.1) a).size = a.size ∧
    (∀ j u, cs[j]? = some u → ((cs.zipIdx j0).foldl (fun (acc : Array Value) (p : Value × Nat) => acc.setIfInBounds (off + p.2) p.1) a).getD (off + j0 + j) undef = u) ∧
    ∀ q, (q < off + j0 ∨ off + j0 + cs.length ≤ q) → ((cs.zipIdx j0).foldl (fun (acc : Array Value) (p : Value × Nat) => acc.setIfInBounds (off + p.2) p.1) a).getD q undef = a.getD q undef := by
  intro cs
  induction cs with
  | nil => intro j0 a _; exact ⟨rfl, fun j u hj => by simp at hj, fun q _ => rfl⟩
  | cons c cs ih =>
    intro j0 a hz
    simp only [List.length_cons] at hz
    obtain ⟨g1, g2, g3⟩ := ih (j0 + 1) (a.setIfInBounds (off + j0) c) (by simp; omega)
    simp only [List.zipIdx_cons, List.foldl_cons]
    refine ⟨by rw [g1]; simp, fun j u hj => ?_, fun q hq => ?_⟩
    · cases j with
      | zero =>
        simp at hj
        subst hj
        rw [g3 _ (.inl (by omega))]
        have : off + j0 < a.size := by omega
        simp [this]
      | succ j =>
        have := g2 j u (by simpa using hj)
        rwa [show off + (j0 + 1) + j = off + j0 + (j + 1) by omega] at this
    · simp only [List.length_cons] at hq
      rw [g3 q (by omega)]
      have : off + j0 ≠ q := by omega
      simp [Array.getElem?_setIfInBounds_ne this]
def CW (k : Kr) (w : World) (cs : List AV) (a : Array Value) : Prop := a.size = cs.length ∧ ∀ (j : Nat) (y : AV), cs[j]? = some y → VRel k w y (a.getD j undef)
theorem fill_step {cs : List AV} {a : Array Value} (hc : CW k w cs a) {x : AV} {v : Value} (hx : VRel k w x v) {s off : Nat} (hok : okE s x = true) (hfit : off + s ≤ cs.length) :
    v.cells.size = s ∧ CW k w (cs.take off ++ cells x ++ cs.drop (off + s)) (v.cells.zipIdx.foldl (fun cs (c, j) => cs.setIfInBounds (off + j) c) a) := by
  obtain ⟨hl, hall⟩ := okE_spec hok
  obtain ⟨q1, q2, q3⟩ := hx.cellsOf hall
  have hvs : v.cells.size = s := by rw [q1, hl]
  refine ⟨hvs, ?_⟩
  have hfold : v.cells.zipIdx.foldl (fun cs (c, j) => cs.setIfInBounds (off + j) c) a = (v.cells.toList.zipIdx 0).foldl (fun (acc : Array Value) (p : Value × Nat) => acc.setIfInBounds (off + p.2) p.1) a := by
    rw [← Array.foldl_toList, Array.toList_zipIdx]
  rw [hfold]
  obtain ⟨g1, g2, g3⟩ := fold_set off v.cells.toList 0 a (by rw [Array.length_toList, hvs, hc.1]; omega)
  simp only [Nat.add_zero, Array.length_toList, hvs] at g2 g3
  have htl : (cs.take off).length = off := by simp; omega
  refine ⟨by rw [g1, hc.1]; simp only [List.length_append, htl, hl, List.length_drop]; omega, fun j y hj => ?_⟩
  rw [getElem?_mid, htl, hl] at hj
  split at hj
  · rename_i h1
    rw [g3 j (.inl h1)]
    exact hc.2 j y (take_get hj).1
  · rename_i h1
    split at hj
    · rename_i h2
      have h3 := q2 _ _ hj
      have h4 : v.cells.toList[j - off]? = some (v.cells.getD (j - off) undef) := by
        have : j - off < v.cells.size := by omega
        simp [this]
      have h5 := g2 _ _ h4
      rw [show off + (j - off) = j by omega] at h5
      rw [h5]; exact h3
    · rename_i h2
      rw [List.getElem?_drop] at hj
      rw [g3 j (.inr (by omega))]
      refine hc.2 j y ?_
      rw [← hj]
      congr 1
      omega
theorem fill_sound {place : Nat → Option (Nat × Nat)} : ∀ (ps : List (Nat × Value)) (qs : List (Nat × Nat × AV)) (cs : List AV) (a : Array Value) (r : List AV), CW k w cs a → ps.length = qs.length →
    (∀ (i : Nat) (q : Nat × Nat × AV), qs[i]? = some q → ∃ p, ps[i]? = some p ∧ place p.1 = some (q.1, q.2.1) ∧ VRel k w q.2.2 p.2) → fillA cs qs = some r → ∃ a', Instr.fill place a ps = some a' ∧ CW k w r a' := by
  intro ps
  induction ps with
  | nil =>
    intro qs cs a r hc hl _ hf
    obtain rfl : qs = [] := List.eq_nil_of_length_eq_zero (by simpa using hl.symm)
    obtain rfl : cs = r := by simpa [fillA] using hf
    exact ⟨a, rfl, hc⟩
  | cons p ps ih =>
    intro qs cs a r hc hl hq hf
    cases qs with
    | nil => simp at hl
    | cons q qs =>
      obtain ⟨off, s, x⟩ := q
      obtain ⟨p', hp', h1, h2⟩ := hq 0 (off, s, x) rfl
      simp at hp'
      subst hp'
      obtain ⟨i, v⟩ := p
      simp only [fillA] at hf
      split at hf
      · rename_i hcond
        obtain ⟨g1, g2⟩ := fill_step hc h2 hcond.1 hcond.2
        obtain ⟨a', g3, g4⟩ := ih qs _ _ r g2 (by simpa using hl) (fun i q hi => by simpa using hq (i + 1) q (by simpa using hi)) hf
        refine ⟨a', ?_, g4⟩
        simp only at h1 g1
        have hn1 : (decide (v.cells.size ≠ s) || decide (off + v.cells.size > a.size)) = false := by
          have := hc.1
          simp [g1]; omega
        simp only [Instr.fill, h1]
        rw [if_neg (by simpa using hn1)]
        exact g3
      · cases hf
theorem fillS_sound {s : Nat} (hs0 : 0 < s) : ∀ (ps : List (Nat × Value)) (qs : List (Nat × AV)) (xs : List AV) (a : Array Value) (r : List AV),
    a.size = xs.length * s → (∀ y ∈ xs, (cells y).length = s) → (∀ i y j x, xs[i]? = some y → (cells y)[j]? = some x → VRel k w x (a.getD (i * s + j) undef)) → ps.length = qs.length →
    (∀ (i : Nat) (q : Nat × AV), qs[i]? = some q → ∃ p, ps[i]? = some p ∧ p.1 = q.1 ∧ VRel k w q.2 p.2) → fillS s xs qs = some r →
    ∃ a', Instr.fill (fun i => some (i * s, s)) a ps = some a' ∧ a'.size = r.length * s ∧ r.length = xs.length ∧ (∀ y ∈ r, (cells y).length = s) ∧ ∀ i y j x, r[i]? = some y → (cells y)[j]? = some x → VRel k w x (a'.getD (i * s + j) undef) := by
  intro ps
  induction ps with
  | nil =>
    intro qs xs a r h1 h2 h3 hl _ hf
    obtain rfl : qs = [] := List.eq_nil_of_length_eq_zero (by simpa using hl.symm)
    obtain rfl : xs = r := by simpa [fillS] using hf
    exact ⟨a, rfl, h1, rfl, h2, h3⟩
  | cons p ps ih =>
    intro qs xs a r h1 h2 h3 hl hq hf
    cases qs with
    | nil => simp at hl
    | cons q qs =>
      obtain ⟨i, x⟩ := q
      obtain ⟨p', hp', g1, g2⟩ := hq 0 (i, x) rfl
      simp at hp'
      subst hp'
      obtain ⟨i', v⟩ := p
      simp only at g1 g2
      subst g1
      simp only [fillS] at hf
      split at hf
      · rename_i hcond
        obtain ⟨hok, hil⟩ := hcond
        obtain ⟨hlx, hall⟩ := okE_spec hok
        obtain ⟨q1, q2, q3⟩ := g2.cellsOf hall
        have hvs : v.cells.size = s := by rw [q1, hlx]
        have hspan : i' * s + s ≤ xs.length * s := by
          have := Nat.mul_le_mul_right s (show i' + 1 ≤ xs.length from hil)
          rwa [Nat.add_mul, Nat.one_mul] at this
        have hfold : v.cells.zipIdx.foldl (fun cs (c, j) => cs.setIfInBounds (i' * s + j) c) a = (v.cells.toList.zipIdx 0).foldl (fun (acc : Array Value) (p : Value × Nat) => acc.setIfInBounds (i' * s + p.2) p.1) a := by
          rw [← Array.foldl_toList, Array.toList_zipIdx]
        obtain ⟨f1, f2, f3⟩ := fold_set (i' * s) v.cells.toList 0 a (by rw [Array.length_toList, hvs, h1]; omega)
        simp only [Nat.add_zero, Array.length_toList, hvs] at f2 f3
        rw [← hfold] at f1 f2 f3
        obtain ⟨a', e1, e2, e3, e4, e5⟩ := ih qs (xs.set i' x) _ r (by rw [f1, h1]; simp) (fun y hy => by
            rcases List.mem_or_eq_of_mem_set hy with hy | rfl
            · exact h2 y hy
            · exact hlx) (fun n y j u hn hj => by
            by_cases hni : n = i'
            · subst hni
              rw [List.getElem?_set_self hil] at hn
              simp only [Option.some.injEq] at hn
              subst hn
              have hjl := (List.getElem?_eq_some_iff.1 hj).1
              rw [hlx] at hjl
              have h4 : v.cells.toList[j]? = some (v.cells.getD j undef) := by
                have : j < v.cells.size := by omega
                simp [this]
              rw [f2 _ _ h4]
              exact q2 j u hj
            · rw [List.getElem?_set_ne (fun e => hni e.symm)] at hn
              have hjl := (List.getElem?_eq_some_iff.1 hj).1
              rw [h2 y (List.mem_of_getElem? hn)] at hjl
              rw [f3 _ ?_]
              · exact h3 n y j u hn hj
              · rcases Nat.lt_or_gt_of_ne hni with hlt | hlt
                · left
                  have := Nat.mul_le_mul_right s (show n + 1 ≤ i' from hlt)
                  rw [Nat.add_mul, Nat.one_mul] at this
                  omega
                · right
                  have := Nat.mul_le_mul_right s (show i' + 1 ≤ n from hlt)
                  rw [Nat.add_mul, Nat.one_mul] at this
                  omega) (by simpa using hl) (fun i q hi => by simpa using hq (i + 1) q (by simpa using hi)) hf
        refine ⟨a', ?_, e2, by rw [e3]; simp, e4, e5⟩
        simp only [Instr.fill]
        rw [if_neg (by
          simp only [hvs, ne_eq, not_true_eq_false, decide_false, Bool.false_or, decide_eq_true_eq, gt_iff_lt, Nat.not_lt]
          rw [h1]; omega)]
        exact e1
      · cases hf
end
end Go.AM

end
section
set_option linter.unusedVariables false
set_option linter.unusedSimpArgs false
namespace Go.AM
open Go
section
variable {P : Program} {k : Kr} {h h' : Heap} {w : World} {ρ : Operand → Value} {ρA : Opd → AV} {x : AV}
theorem alloc_fr (k : Kr) (w : World) (o : Obj) : Fr k w k (w.alloc o) where
  os := rfl
  tape := rfl
  output := rfl
  size := by show w.heap.size ≤ (w.heap.push o).size; simp
  old := fun b hb hn => ⟨by show (w.heap.push o)[b]? = _; rw [Array.getElem?_push_lt hb, Array.getElem?_eq_getElem hb], hn⟩
  shape := fun b c e f h => ⟨c, e, f, by
    show (w.heap.push o)[b]? = _
    have hb := (Array.getElem?_eq_some_iff.1 h).1
    rw [Array.getElem?_push_lt hb, ← h, Array.getElem?_eq_getElem hb], rfl⟩
  n := Nat.le_refl _
  ban := rfl
  vir := fun _ _ h => h
  vir2 := fun _ _ h => h
  loc := fun id l' _ h1 => ⟨l', h1, .inl rfl⟩
theorem args_rel (hρ : ∀ x y, opdOk x y = true → VRel k w (ρA y) (ρ x)) {as : Array Operand} {xs : List Opd} (ha : all2 opdOk as.toList xs = true) : PW k w (xs.map ρA) (as.map ρ) := by
  obtain ⟨h1, h2⟩ := all2_spec ha
  refine ⟨by simp [← h1], fun i y hy => ?_⟩
  rw [List.getElem?_map] at hy
  obtain ⟨q, hq, rfl⟩ := Option.map_eq_some_iff.1 hy
  obtain ⟨p, hp, ho⟩ := h2 i q hq
  have : (as.map ρ).getD i undef = ρ p := by
    rw [Array.getElem?_toList] at hp
    simp [Array.getD_eq_getD_getElem?, hp]
  rw [this]
  exact hρ p q ho
theorem opt_rel (hρ : ∀ x y, opdOk x y = true → VRel k w (ρA y) (ρ x)) {a : Option Operand} {x : Option Opd} (ha : optOk a x = true) : ORel k w (x.map ρA) (a.map ρ) := by
  cases a <;> cases x <;> first | trivial | (cases ha; done) | exact hρ _ _ ha
theorem PW.append {xs ys : List AV} {a b : Array Value} (h1 : PW k w xs a) (h2 : PW k w ys b) : PW k w (xs ++ ys) (a ++ b) := by
  refine ⟨by rw [List.length_append, Array.size_append, h1.1, h2.1], fun i x hx => ?_⟩
  by_cases hlt : i < xs.length
  · rw [List.getElem?_append_left hlt] at hx
    have := h1.2 i x hx
    rwa [show (a ++ b).getD i undef = a.getD i undef by simp only [Array.getD_eq_getD_getElem?]; rw [Array.getElem?_append_left (by rw [← h1.1]; exact hlt)]]
  · rw [List.getElem?_append_right (by omega)] at hx
    have := h2.2 _ x hx
    rwa [show (a ++ b).getD i undef = b.getD (i - xs.length) undef by simp only [Array.getD_eq_getD_getElem?]; rw [Array.getElem?_append_right (by rw [← h1.1]; omega), h1.1]]
theorem run_part {t s ag} (ht : tySz P t = some (s, ag)) {cs : List AV} {vs : Array Value} {off : Nat} (hl : cs.length = vs.size) (hr : ∀ (i : Nat) (x : AV), cs[i]? = some x → VRel k w x (vs.getD i undef)) (hx : part s ag cs off = some x) :
    ∃ v, (Go.part t vs off).run P w = .ok v w ∧ VRel k w x v := by
  obtain ⟨h1, h2⟩ := part_some hx
  cases ag with
  | true =>
    obtain rfl : AV.agg (sub cs off s) = x := by simpa [mkv] using h2
    refine ⟨.agg (vs.extract off (off + s)), by simp [Go.part, run_isAgg ht, run_sizeOf ht], .agg _ _ (by rw [sub_len h1]; simp; omega) fun i y hy => ?_⟩
    obtain ⟨q1, q2⟩ := sub_get hy
    have := hr _ y q1
    have e1 : (vs.extract off (off + s)).getD i undef = vs.getD (off + i) undef := by
      have : off + i < vs.size := by omega
      simp only [Array.getD_eq_getD_getElem?, Array.getElem?_extract]
      rw [if_pos (by omega)]
    rw [e1]; exact this
  | false =>
    have hlen := sub_len h1
    match hq : sub cs off s, h2 with
    | [y], h2 =>
      obtain rfl : y = x := by simpa [mkv] using h2
      have h3 : (sub cs off s)[0]? = some y := by rw [hq]; rfl
      obtain ⟨q1, q2⟩ := sub_get h3
      have h4 := hr _ y q1
      rw [Nat.add_zero] at h4 q1
      have hlt : off < vs.size := by rw [← hl]; exact (List.getElem?_eq_some_iff.1 q1).1
      refine ⟨vs.getD off undef, ?_, h4⟩
      simp [Go.part, run_isAgg ht, hlt]
theorem partA_some {s ag cs off x} (hx : partA s ag cs off = some x) : off + s ≤ cs.length ∧ cells x = sub cs off s := by
  obtain ⟨z, hz, hx⟩ := Option.bind_eq_some_iff.1 hx
  split at hx
  · rename_i hk
    simp only [Option.some.injEq] at hx
    subst hx
    obtain ⟨p1, p2⟩ := part_some hz
    refine ⟨p1, ?_⟩
    cases ag with
    | true =>
      obtain rfl : AV.agg (sub cs off s) = z := by simpa [mkv] using p2
      rfl
    | false =>
      match hq2 : sub cs off s, p2 with
      | [u], p2 =>
        obtain rfl : u = z := by simpa [mkv] using p2
        cases u <;> first | rfl | (simp [okCell] at hk)
  · cases hx
theorem fad_part {y z : AV} {s off : Nat} {ag : Bool} {ad : Addr} (ha : VRel k w (.fad y) (.pointer (some ad))) (hz : partA s ag (cells y) off = some z) : VRel k w (.fad z) (.pointer (some (ad.add off))) := by
  obtain ⟨ad', hva, vs, hb, hzb, hc, hr⟩ := ha.fad_inv
  obtain rfl : ad = ad' := by simpa using hva
  obtain ⟨p1, hcz⟩ := partA_some hz
  refine .frz (.fad z _ (fun j => vs (off + j)) (by rw [add_block]; exact hb) (by rw [add_block]; exact hzb) (fun j hj => ?_) fun j u hu => ?_)
  · rw [add_add]
    rw [hcz, sub_len p1] at hj
    exact hc _ (by omega)
  · rw [hcz] at hu
    exact hr _ u (sub_get hu).1
theorem fieldOk_some {t : TypeId} {f off s : Nat} {ag : Bool} (hk : fieldOk P t f off s ag = true) : ∃ fs fd, P.underlying t = some (.struct fs) ∧ fs[f]? = some fd ∧ fd.offset = off ∧ tySz P fd.type = some (s, ag) ∧ s ≠ 0 := by
  unfold fieldOk at hk
  split at hk
  · rename_i fs hu
    split at hk
    · rename_i fd hf
      simp only [Bool.and_eq_true, beq_iff_eq, decide_eq_true_eq, bne_iff_ne] at hk
      exact ⟨fs, fd, hu, hf, hk.1.1, hk.1.2, hk.2⟩
    · cases hk
  · cases hk
theorem arrOk_some {t : TypeId} {n s : Nat} {ag : Bool} (hk : arrOk P t n s ag = true) : ∃ e, P.underlying t = some (.array n e) ∧ tySz P e = some (s, ag) := by
  unfold arrOk at hk
  split at hk
  · rename_i m e hu
    simp only [Bool.and_eq_true, beq_iff_eq, decide_eq_true_eq] at hk
    obtain ⟨rfl, h2⟩ := hk
    exact ⟨e, hu, h2⟩
  · cases hk
theorem sizeOk_some {e : TypeId} {s : Nat} (hs : sizeOk P e s = true) : ∃ i, P.info? e = some i ∧ i.size = s := by
  unfold sizeOk at hs
  cases hh : P.info? e with
  | none => simp [hh] at hs
  | some i => exact ⟨i, rfl, by simpa [hh] using hs⟩
theorem any_elem {t : TypeId} {p : TypeId → Bool} (hk : (elemOf? P t).any p = true) : ∃ e, P.underlying t = some (.slice e) ∧ p e = true := by
  cases he : elemOf? P t with
  | none => simp [he] at hk
  | some e => exact ⟨e, elemOf_some he, by simpa [he] using hk⟩
theorem isSome_elem {t : TypeId} (hk : (elemOf? P t).isSome = true) : ∃ e, P.underlying t = some (.slice e) := by
  obtain ⟨e, he⟩ := Option.isSome_iff_exists.1 hk
  exact ⟨e, elemOf_some he⟩
theorem intTy_some {t : TypeId} {kk : IntKind} (hk : intTy P t = some kk) : P.underlying t = some (.int kk) := by
  unfold intTy at hk
  split at hk
  · simp only [Option.some.injEq] at hk; subst hk; assumption
  · cases hk
theorem limOk_some {e : TypeId} {lim : Nat} {i : TypeInfo} (hi : P.info? e = some i) (hk : limOk P e lim = true) : lim * i.bytes ≤ 140737488355328 ∧ lim ≤ 9223372036854775807 := by
  unfold limOk at hk
  simpa [hi] using hk
theorem limOk2_some {e : TypeId} {lim : Nat} {i : TypeInfo} (hi : P.info? e = some i) (hk : limOk2 P e lim = true) : lim * i.bytes ≤ 281474976710656 ∧ lim ≤ 9223372036854775807 := by
  unfold limOk2 at hk
  simpa [hi] using hk
theorem goodElem_some {e : TypeId} {s lim : Nat} (hk : goodElem P e s lim = true) : ∃ i z, P.info? e = some i ∧ i.zero = some z ∧ z.cells.size = i.size ∧ i.size = s ∧ lim * i.bytes ≤ 140737488355328 ∧ lim ≤ 9223372036854775807 := by
  unfold goodElem at hk
  split at hk
  · rename_i i hi
    split at hk
    · rename_i z hz
      simp only [Bool.and_eq_true, beq_iff_eq, decide_eq_true_eq] at hk
      exact ⟨i, z, hi, hz, hk.1.1.1, hk.1.1.2, hk.1.2, hk.2⟩
    · cases hk
  · cases hk
theorem list_two {α : Type} {a : Array α} {x y : α} (h : a.toList = [x, y]) : a = #[x, y] := by
  apply Array.ext'
  simpa using h
theorem list_one {α : Type} {a : Array α} {x : α} (h : a.toList = [x]) : a = #[x] := by
  apply Array.ext'
  simpa using h
theorem run_callFunc {f : Nat} (hE : Enters P f) (args : Array Value) : (callFunc f args).run P w = .ok (.enter f args) w := by
  obtain ⟨fn, h1, h2, h3⟩ := hE
  simp only [callFunc, Sem.run_bind, run_program, Result.andThen_ok, h1, h2, h3, Bool.false_eq_true, if_false]
  rfl
theorem OPost.kill {S : List Nat} {o : Oper} (h0 : OPost P (k.kill S) w ρ o x h') : OPost P k w ρ o x h' := by
  rcases h0 with ⟨v, w', k', h1, hF, hH, hv⟩ | ⟨f, args, h1, h2⟩
  · exact .inl ⟨v, w', k', h1, (kill_fr k w S).trans hF, hH, hv⟩
  · refine .inr ⟨f, args, h1, h2.mono ?_⟩
    rintro e w' ⟨v, k', rfl, hF, hH, hv⟩
    exact ⟨v, k', rfl, (kill_fr k w S).trans hF, hH, hv⟩
theorem bslice_sound {dst type pos after guard} {t e : TypeId} {n s : Nat} {ps : Array (Nat × Operand)} {z : AV} {qs : List (Nat × AV)} {r : List AV} (H : HRel k h w) (he : elemOf? P t = some e) (h1 : zeroOk P e s z = true) (h2 : n * s ≤ 16777216) (h3 : 0 < s)
    (m1 : ps.toList.length = qs.length) (m2 : ∀ (i : Nat) (q : Nat × AV), qs[i]? = some q → ∃ p, ps.toList[i]? = some p ∧ p.1 = q.1 ∧ VRel k w q.2 (ρ p.2))
    (ho : fillS s (List.replicate n z) qs = some r) : OPost P k w ρ ⟨dst, .buildSlice t n ps, type, pos, after, guard⟩ (.ref h.length 0 s 0 n) (h ++ [some ⟨0, s, r⟩]) := by
  obtain ⟨i, zv, g1, g2, g3, rfl, g5⟩ := zeroOk_some h1
  obtain ⟨hz, hzc⟩ := valOk_rel g3 k w
  obtain ⟨q1, q2, q3⟩ := hz.cellsOf hzc
  have hzs : zv.cells.size = i.size := by rw [q1, g5]
  obtain ⟨a', f1, f2, f3, f4, f5⟩ := fillS_sound (k := k) (w := w) h3 ((ps.map fun (i, x) => (i, ρ x)).toList) qs (List.replicate n z) (madeCells zv.cells (n * i.size)) r
    (by rw [size_madeCells, List.length_replicate]) (fun y hy => by rw [List.eq_of_mem_replicate hy]; exact g5) (fun i' y j x hi' hj => by
      have h1 := (List.getElem?_eq_some_iff.1 hi').1
      rw [List.length_replicate] at h1
      rw [List.getElem?_replicate, if_pos h1] at hi'
      simp only [Option.some.injEq] at hi'
      subst hi'
      have hj' : j < i.size := by rw [← g5]; exact (List.getElem?_eq_some_iff.1 hj).1
      rw [getD_made hzs h1 hj']
      exact q2 j x hj) (by simpa using m1) (fun i q hq => by
      obtain ⟨p, hp, h1, h2⟩ := m2 i q hq
      exact ⟨(p.1, ρ p.2), by simp only [Array.toList_map, List.getElem?_map, hp, Option.map_some], h1, h2⟩) ho
  rw [List.length_replicate] at f3
  have hmap : (ps.map fun (i, x) => (i, ρ x)).toList = ps.toList.map fun x => (x.1, ρ x.2) := by simp
  rw [hmap] at f1
  obtain ⟨hF, hH⟩ := new_block (w' := w.alloc (.cells a' e)) (c := a') (e := e) (xs := r) (s := i.size) H rfl rfl rfl rfl f4 (by rw [f2]; exact Nat.le_refl _) f5
  rw [f3] at hF hH
  refine .inl ⟨.slice (some ⟨w.heap.size, 0, none⟩) n n, _, _, .inl ?_, hF, hH, ?_⟩
  · have hn : ¬ (16777216 < n * i.size) := by omega
    by_cases h0 : n * i.size = 0
    · have hm : madeCells zv.cells (n * i.size) = #[] := by rw [h0]; simp [madeCells]
      have hm2 : ((Array.range (n * i.size)).map fun x => (#[] : Array Value)[x % (#[] : Array Value).size]!) = #[] := by rw [h0]; simp
      rw [hm] at f1
      simp only [execOp, Instr.buildSlice, Sem.run_bind, run_underlying (elemOf_some he), Result.andThen_ok, sizeOf, typeInfo, run_program, g1, Sem.run_pure, h0]
      simp [Array.range_zero', f1, newRow]
    · have hm : madeCells zv.cells (n * i.size) = (Array.range (n * i.size)).map (zv.cells[· % zv.cells.size]!) := rfl
      rw [hm] at f1
      simp only [execOp, Instr.buildSlice, Sem.run_bind, run_underlying (elemOf_some he), Result.andThen_ok, sizeOf, typeInfo, run_program, g1, Sem.run_pure]
      simp [h0, hn, zeroValue, typeInfo, g1, g2, f1, newRow]
  · refine .ref _ _ _ _ _ _ _ (push_ok H _) (Nat.le_refl _) fun l hl => ?_
    simp only [Kr.push, H.n, if_true, Option.some.injEq] at hl
    subst hl
    refine ⟨Nat.le_refl _, fun _ => ⟨rfl, by simp, .inl ⟨by simp, a', e, (0, 0), (by show (w.heap.push _)[w.heap.size]? = _; simp), ?_⟩⟩⟩
    rw [f2, f3]; simp
theorem OPost.alone {o : Oper} {q x : AV} {h1 : Heap} (H : HRel k h w) (h0 : OPost P ⟨0, fun _ => none, k.bad, fun _ => False⟩ w ρ o q h1) (hx : frz h1 deep q = some x) : OPost P k w ρ o x h := by
  have go : ∀ (v : Value) (w' : World) (k1 : Kr), Fr ⟨0, fun _ => none, k.bad, fun _ => False⟩ w k1 w' → HRel k1 h1 w' → VRel k1 w' q v → Fr k w k w' ∧ HRel k h w' ∧ VRel k w' x v := by
    intro v w' k1 hF H1 hv
    have hF2 : Fr k w k w' := by
      refine ⟨⟨hF.os, hF.tape, hF.output, hF.size, fun b hb hr => ⟨(hF.old b hb (fun ⟨id, l, h1, _⟩ => by cases h1)).1, hr⟩, hF.shape, Nat.le_refl _, rfl, fun _ _ h => h, fun id l' _ h1 => ⟨l', h1, .inl rfl⟩⟩, fun _ _ h => h⟩
    refine ⟨hF2, H.same hF2 fun b hb => (hF.old b hb (fun ⟨id, l, h1, _⟩ => by cases h1)).1, ?_⟩
    have h3 := frz_rel H1 (used h1 deep q) deep q x v hx (fun id hid => hid) hv
    refine .frz (h3.weak fun b hb => ?_)
    left
    show k1.ban b
    rw [hF.ban]
    exact hb
  rcases h0 with ⟨v, w', k1, hr, hF, H1, hv⟩ | ⟨f, args, hr, hS⟩
  · obtain ⟨a, b, c⟩ := go v w' k1 hF H1 hv
    exact .inl ⟨v, w', k, hr, a, b, c⟩
  · refine .inr ⟨f, args, hr, hS.mono ?_⟩
    rintro e w' ⟨v, k1, rfl, hF, H1, hv⟩
    obtain ⟨a, b, c⟩ := go v w' k1 hF H1 hv
    exact ⟨v, k, rfl, a, b, c⟩
theorem op_sound {C : CR} (hC : CSound P C) {o : Oper} {ao : AOp} (hk : chkOp P o.op ao = true) (hρ : ∀ x y, opdOk x y = true → VRel k w (ρA y) (ρ x)) (hfun : ∀ f, ρ (.func f) = .func (.func f) #[] #[])
    (H : HRel k h w) (ho : opA C ρA h ao = some (x, h')) : OPost P k w ρ o x h' := by
  obtain ⟨dst, op, type, pos, after, guard⟩ := o
  simp only at hk
  unfold chkOp at hk
  split at hk
  ·
    rename_i a b
    simp only [opA, Option.some.injEq, Prod.mk.injEq] at ho
    obtain ⟨rfl, rfl⟩ := ho
    exact .light H (by simp [execOp]) (hρ _ _ hk)
  · rename_i a b
    simp only [opA, Option.some.injEq, Prod.mk.injEq] at ho
    obtain ⟨rfl, rfl⟩ := ho
    exact .light H (by simp [execOp]) (hρ _ _ hk)
  ·
    simp only [Bool.and_eq_true] at hk
    simp only [opA] at ho
    split at ho
    · rename_i t ht
      simp only [Option.some.injEq, Prod.mk.injEq] at ho
      obtain ⟨rfl, rfl⟩ := ho
      have hc := hρ _ _ hk.1.1
      rw [ht] at hc
      have hc := hc.bool_inv
      cases t
      · exact .light H (by simp [execOp, hc, asBool]) (hρ _ _ hk.2)
      · exact .light H (by simp [execOp, hc, asBool]) (hρ _ _ hk.1.2)
    · cases ho
  ·
    simp only [Bool.and_eq_true, beq_iff_eq] at hk
    obtain ⟨⟨rfl, h1⟩, h2⟩ := hk
    simp only [opA, Option.map_eq_some_iff, Prod.mk.injEq] at ho
    obtain ⟨_, ho, rfl, rfl⟩ := ho
    obtain ⟨v, g1, g2⟩ := bin_sound (P := P) (hρ _ _ h1) (hρ _ _ h2) ho
    exact .light H (v := v) (by simp only [execOp]; rw [Sem.run_bind, g1]; rfl) g2
  ·
    rename_i op' t a b yt ty neg a' b'
    simp only [Bool.and_eq_true, beq_iff_eq] at hk
    obtain ⟨⟨⟨⟨rfl, h1⟩, h2⟩, h3⟩, h4⟩ := hk
    simp only [opA, Option.map_eq_some_iff, Prod.mk.injEq] at ho
    obtain ⟨r, ho, rfl, rfl⟩ := ho
    have g1 := eqs_sound (P := P) (ox := a) (oy := b) (neg := neg) h3 (hρ _ _ h1) (hρ _ _ h2) ho
    exact .light H (by simp only [execOp]; rw [Sem.run_bind, g1]; rfl) (.frz (.bool _))
  ·
    simp only [Bool.and_eq_true, beq_iff_eq] at hk
    obtain ⟨rfl, h1⟩ := hk
    simp only [opA, Option.map_eq_some_iff, Prod.mk.injEq] at ho
    obtain ⟨_, ho, rfl, rfl⟩ := ho
    obtain ⟨v, g1, g2⟩ := un_sound (P := P) (hρ _ _ h1) ho
    exact .light H (v := v) (by simp only [execOp]; rw [Sem.run_bind, g1]; rfl) g2
  ·
    simp only [Bool.and_eq_true, decide_eq_true_eq] at hk
    obtain ⟨⟨h1, h2⟩, h3⟩ := hk
    simp only [opA] at ho
    split at ho
    · rename_i k1 n ht
      simp only [Option.some.injEq, Prod.mk.injEq] at ho
      obtain ⟨rfl, rfl⟩ := ho
      have hc := hρ _ _ h3
      rw [ht] at hc
      have hc := hc.int_inv
      obtain ⟨ks, hks⟩ := Option.isSome_iff_exists.1 h1
      exact .light H (by simp [execOp, hc, convert, run_underlying (intTy_some hks), run_underlying (intTy_some h2), Conv.intToInt]) (.frz (.int _ _))
    · cases ho
  ·
    obtain ⟨i, zv, g1, g2, g3, g4, g5⟩ := zeroOk_some hk
    simp only [opA, Option.some.injEq, Prod.mk.injEq] at ho
    obtain ⟨rfl, rfl⟩ := ho
    obtain ⟨hz, hzc⟩ := valOk_rel g3 k w
    obtain ⟨q1, q2, q3⟩ := hz.cellsOf hzc
    rename_i t z
    obtain ⟨hF, hH⟩ := new_block (w' := w.alloc (.cells zv.cells t)) (c := zv.cells) (e := t) (xs := [z]) (s := (cells z).length) H rfl rfl rfl rfl (by simp) (by simp [q1]) (fun i y j x hi hj => by
      cases i with
      | zero => simp at hi; subst hi; simpa using q2 j x hj
      | succ i => simp at hi)
    refine .inl ⟨.pointer (some ⟨w.heap.size, 0, none⟩), _, _, .inl ?_, hF, hH, ?_⟩
    · simp [execOp, Instr.alloc, zeroValue, typeInfo, g1, g2, newVar, newRow]
    · refine .ptr _ _ _ _ _ (push_ok H _) fun l hl => ?_
      simp only [Kr.push, H.n, if_true, Option.some.injEq] at hl
      subst hl
      exact ⟨Nat.le_refl _, fun _ => by simp⟩
  ·
    rename_i t a a'
    simp only [opA] at ho
    split at ho
    · rename_i hall
      simp only [Option.some.injEq, Prod.mk.injEq] at ho
      obtain ⟨rfl, rfl⟩ := ho
      obtain ⟨q1, q2, q3⟩ := (hρ _ _ hk).cellsOf hall
      obtain ⟨hF, hH⟩ := new_block (w' := w.alloc (.cells (ρ a).cells t)) (c := (ρ a).cells) (e := t) (xs := [ρA a']) (s := (cells (ρA a')).length) H rfl rfl rfl rfl (by simp) (by simp [q1]) (fun i y j x hi hj => by
        cases i with
        | zero => simp at hi; subst hi; simpa using q2 j x hj
        | succ i => simp at hi)
      refine .inl ⟨.pointer (some ⟨w.heap.size, 0, none⟩), _, _, .inl ?_, hF, hH, ?_⟩
      · simp [execOp, Instr.box, newVar, newRow]
      · refine .ptr _ _ _ _ _ (push_ok H _) fun l hl => ?_
        simp only [Kr.push, H.n, if_true, Option.some.injEq] at hl
        subst hl
        exact ⟨Nat.le_refl _, fun _ => by simp⟩
    · cases ho
  ·
    rename_i t ps z qs
    unfold buildOk at hk
    split at hk
    · rename_i zv place hpl
      simp only [Bool.and_eq_true] at hk
      obtain ⟨g1, g2⟩ := hk
      obtain ⟨m1, m2⟩ := all2_spec g2
      simp only [opA, Option.map_eq_some_iff, Prod.mk.injEq] at ho
      obtain ⟨r, ho, rfl, rfl⟩ := ho
      obtain ⟨hz, hzc⟩ := valOk_rel g1 k w
      obtain ⟨vs, rfl, hl, hr⟩ := hz.agg_inv
      obtain ⟨a', f1, f2⟩ := fill_sound (place := place) ((ps.map fun (i, x) => (i, ρ x)).toList) (qs.map fun p => (p.1, p.2.1, ρA p.2.2)) z vs r ⟨hl.symm, hr⟩ (by simp [← m1]) (fun i q hq => by
        rw [List.getElem?_map] at hq
        obtain ⟨q', hq', rfl⟩ := Option.map_eq_some_iff.1 hq
        obtain ⟨p, hp, hpq⟩ := m2 i q' hq'
        simp only [Bool.and_eq_true, decide_eq_true_eq] at hpq
        exact ⟨(p.1, ρ p.2), by simp only [Array.toList_map, List.getElem?_map, hp, Option.map_some], hpq.1, hρ _ _ hpq.2⟩) ho
      have hbuilt : P.built t (ps.map fun (i, x) => (i, ρ x)).toList = some a' := by
        unfold places at hpl
        unfold Program.built
        split at hpl
        · rename_i it m e hit hu
          split at hpl
          · rename_i z' ie hz' hie
            simp only [Option.some.injEq, Prod.mk.injEq] at hpl
            obtain ⟨rfl, rfl⟩ := hpl
            simp only [hit, hu, hz', hie]
            exact f1
          · cases hpl
        · rename_i it fields hit hu
          split at hpl
          · rename_i z' pl hz' hpp
            simp only [Option.some.injEq, Prod.mk.injEq] at hpl
            obtain ⟨rfl, rfl⟩ := hpl
            simp only [hit, hu, hz', hpp]
            exact f1
          · cases hpl
        · cases hpl
      exact .light H (v := .agg a') (by simp [execOp, run_build w t _ a' hbuilt]) (.agg r a' f2.1.symm f2.2)
    · cases hk
  ·
    rename_i t n ps n' s z qs
    split at hk
    · rename_i e he
      simp only [Bool.and_eq_true, beq_iff_eq, decide_eq_true_eq] at hk
      obtain ⟨⟨⟨⟨rfl, h1⟩, h2⟩, h3⟩, h4⟩ := hk
      obtain ⟨m1, m2⟩ := all2_spec h4
      simp only [opA] at ho
      split at ho
      · simp only [Option.map_eq_some_iff, Prod.mk.injEq] at ho
        obtain ⟨r, ho, rfl, rfl⟩ := ho
        refine bslice_sound H he h1 h2 h3 (by simpa using m1) (fun i q hq => ?_) ho
        rw [List.getElem?_map] at hq
        obtain ⟨q', hq', rfl⟩ := Option.map_eq_some_iff.1 hq
        obtain ⟨p, hp, hpq⟩ := m2 i q' hq'
        simp only [Bool.and_eq_true, beq_iff_eq] at hpq
        exact ⟨p, hp, hpq.1, hρ _ _ hpq.2⟩
      · cases ho
    · cases hk
  ·
    rename_i t n ps n' s z qs
    split at hk
    · rename_i e he
      simp only [Bool.and_eq_true, beq_iff_eq, decide_eq_true_eq] at hk
      obtain ⟨⟨⟨⟨rfl, h1⟩, h2⟩, h3⟩, h4⟩ := hk
      obtain ⟨m1, m2⟩ := all2_spec h4
      simp only [opA, bslF] at ho
      split at ho
      · obtain ⟨ys, hys, ho1⟩ := Option.bind_eq_some_iff.1 ho
        simp only [Option.map_eq_some_iff, Prod.mk.injEq] at ho1
        obtain ⟨r, ho2, rfl, rfl⟩ := ho1
        clear ho
        obtain ⟨l1, l2⟩ := mapM_some hys
        rw [List.length_map] at l1
        refine OPost.kill (S := (qs.map fun p => ρA p.2).flatMap (used h deep)) ?_
        have := bslice_sound (ρ := ρ) (dst := dst) (type := type) (pos := pos) (after := after) (guard := guard) (kill_rel H ((qs.map fun p => ρA p.2).flatMap (used h deep))) he h1 h2 h3 (by rw [m1, List.length_zip, List.length_map]; omega) (fun i q hq => ?_) ho2
        · rwa [kill_len] at this
        · rw [List.getElem?_zip_eq_some] at hq
          obtain ⟨q1, q2⟩ := hq
          rw [List.getElem?_map] at q1
          obtain ⟨q', hq', hq1⟩ := Option.map_eq_some_iff.1 q1
          obtain ⟨p, hp, hpq⟩ := m2 i q' hq'
          simp only [Bool.and_eq_true, beq_iff_eq] at hpq
          obtain ⟨y, hy1, hy2⟩ := l2 i q.2 q2
          rw [List.getElem?_map, hq'] at hy1
          simp only [Option.map_some, Option.some.injEq] at hy1
          subst hy1
          refine ⟨p, hp, by rw [hpq.1, hq1], ?_⟩
          exact .frz (frz_rel H _ deep _ q.2 _ hy2 (fun id hid => List.mem_flatMap.2 ⟨_, List.mem_map.2 ⟨q', List.mem_of_getElem? hq', rfl⟩, hid⟩) (hρ _ _ hpq.2))
      · cases ho
    · cases hk
  ·
    rename_i t n ps n' s z qs
    split at hk
    · rename_i e he
      simp only [Bool.and_eq_true, beq_iff_eq, decide_eq_true_eq] at hk
      obtain ⟨⟨⟨⟨rfl, h1⟩, h2⟩, h3⟩, h4⟩ := hk
      obtain ⟨m1, m2⟩ := all2_spec h4
      simp only [opA, Option.map_eq_some_iff, Prod.mk.injEq] at ho
      obtain ⟨_, ho, rfl, rfl⟩ := ho
      unfold bslV at ho
      split at ho
      · obtain ⟨ys, hys, ho1⟩ := Option.bind_eq_some_iff.1 ho
        obtain ⟨r, ho2, hfr⟩ := Option.bind_eq_some_iff.1 ho1
        obtain ⟨l1, l2⟩ := mapM_some hys
        rw [List.length_map] at l1
        have H0 : HRel ⟨0, fun _ => none, k.bad, fun _ => False⟩ [] w := by
          refine ⟨rfl, fun id b hb => by simp at hb, fun id _ => rfl, fun i j l m h1 => (by cases h1), fun i l h1 => (by cases h1), fun b hb => ?_, fun id hv => hv.elim⟩
          rcases hb with hb' | hb'
          · exact H.banlt b hb'
          · exact H.rng_lt hb'
        refine OPost.alone H (bslice_sound (ρ := ρ) (dst := dst) (type := type) (pos := pos) (after := after) (guard := guard) H0 he h1 h2 h3 (by rw [m1, List.length_zip, List.length_map]; omega) (fun i q hq => ?_) ho2) hfr
        rw [List.getElem?_zip_eq_some] at hq
        obtain ⟨q1, q2⟩ := hq
        rw [List.getElem?_map] at q1
        obtain ⟨q', hq', hq1⟩ := Option.map_eq_some_iff.1 q1
        obtain ⟨p, hp, hpq⟩ := m2 i q' hq'
        simp only [Bool.and_eq_true, beq_iff_eq] at hpq
        obtain ⟨y, hy1, hy2⟩ := l2 i q.2 q2
        rw [List.getElem?_map, hq'] at hy1
        simp only [Option.map_some, Option.some.injEq] at hy1
        subst hy1
        refine ⟨p, hp, by rw [hpq.1, hq1], ?_⟩
        obtain ⟨z1, z2⟩ := frz_nil (h := h) deep _ q.2 hy2
        have hf := frz_rel H [] deep _ q.2 _ z1 (fun id hid => by rw [z2] at hid; exact hid) (hρ _ _ hpq.2)
        refine .frz (hf.weak fun b hb => ?_)
        rcases hb with hb | ⟨id, l, hl, _⟩
        · rcases hb with hb | ⟨id, l, hl, hb⟩
          · exact .inl hb
          · exact .inr ⟨id, l, by simp [Kr.kill, hl], hb⟩
        · cases hl
      · cases ho
    · cases hk
  ·
    rename_i t n ps
    split at hk
    · rename_i e he
      simp only [Bool.and_eq_true, beq_iff_eq, Array.isEmpty_iff] at hk
      obtain ⟨⟨rfl, rfl⟩, h1⟩ := hk
      split at h1
      · rename_i i g1
        obtain ⟨zv, g2⟩ := Option.isSome_iff_exists.1 h1
        simp only [opA, Option.some.injEq, Prod.mk.injEq] at ho
        obtain ⟨rfl, rfl⟩ := ho
        have hF := alloc_fr k w (.cells #[] e)
        refine .inl ⟨.slice (some ⟨w.heap.size, 0, none⟩) 0 0, w.alloc (.cells #[] e), k, .inl ?_, hF, H.same hF (fun b hb => (hF.toFrw.old b hb · |>.1) |> fun f => by
          show (w.heap.push _)[b]? = _
          rw [Array.getElem?_push_lt hb, Array.getElem?_eq_getElem hb]), .frz (.emp true _ 0 fun _ => rfl)⟩
        simp only [execOp, Instr.buildSlice, Sem.run_bind, run_underlying (elemOf_some he), Result.andThen_ok, sizeOf, typeInfo, run_program, g1, Sem.run_pure, Nat.zero_mul]
        simp [Array.range_zero', newRow, Instr.fill]
      · cases h1
    · cases hk
  ·
    simp only [Bool.and_eq_true, decide_eq_true_eq] at hk
    simp only [opA, Option.map_eq_some_iff, Prod.mk.injEq] at ho
    obtain ⟨_, ho, rfl, rfl⟩ := ho
    obtain ⟨v, g1, g2⟩ := load_sound H hk.1 (hρ _ _ hk.2) ho
    exact .light H (v := v) (by simp only [execOp]; rw [Sem.run_bind, g1]; rfl) g2
  ·
    rename_i t a b s a' b'
    simp only [Bool.and_eq_true] at hk
    obtain ⟨⟨h1, h2⟩, h3⟩ := hk
    simp only [opA, Option.map_eq_some_iff, Prod.mk.injEq] at ho
    obtain ⟨h2', ho, rfl, rfl⟩ := ho
    obtain ⟨ag, hts⟩ : ∃ ag, tySz P t = some (s, ag) := by
      cases hq : tySz P t with
      | none => simp [hq] at h1
      | some q => simp [hq] at h1; subst h1; exact ⟨q.2, rfl⟩
    obtain ⟨w', g1, g2, g3⟩ := store_sound H hts (hρ _ _ h2) (hρ _ _ h3) ho
    exact .inl ⟨undef, w', k, .inr ⟨by simp only [execOp]; rw [Sem.run_bind, g1]; rfl, rfl⟩, g2, g3, .undef _⟩
  ·
    rename_i t a f off s ag a'
    simp only [Bool.and_eq_true] at hk
    obtain ⟨h1, h2⟩ := hk
    obtain ⟨fs, fd, u1, u2, rfl, u4, u5⟩ := fieldOk_some h1
    have ha := hρ _ _ h2
    have hsz : ∀ w, (sizeOf fd.type).run P w = .ok s w := run_sizeOf u4
    simp only [opA] at ho
    split at ho
    · rename_i id v i j hq
      simp only [Option.some.injEq, Prod.mk.injEq] at ho
      obtain ⟨rfl, rfl⟩ := ho
      rw [hq] at ha
      obtain ⟨ad, hva, hid, hl⟩ := ha.ptr_inv
      refine .light H (v := .pointer (some (ad.add fd.offset))) (by simp [execOp, Instr.fieldAt, run_underlying u1, u2, hva, Instr.sureAddr, fieldPlace, hsz, u5]) (.ptr _ _ _ _ _ hid fun l hl' => ?_)
      obtain ⟨p1, p2⟩ := hl l hl'
      refine ⟨p1, fun hv => ?_⟩
      rw [p2 hv, add_mk, Nat.add_assoc]
    · rename_i y hq
      obtain ⟨z, hz, hzz⟩ := Option.map_eq_some_iff.1 ho
      simp only [Prod.mk.injEq] at hzz
      obtain ⟨rfl, rfl⟩ := hzz
      rw [hq] at ha
      obtain ⟨ad, hva, _⟩ := ha.fad_inv
      rw [hva] at ha
      exact .light H (v := .pointer (some (ad.add fd.offset))) (by simp [execOp, Instr.fieldAt, run_underlying u1, u2, hva, Instr.sureAddr, fieldPlace, hsz, u5]) (fad_part ha hz)
    · cases ho
  ·
    rename_i t a f off s ag a'
    simp only [Bool.and_eq_true] at hk
    obtain ⟨h1, h2⟩ := hk
    obtain ⟨fs, fd, u1, u2, rfl, u4, u5⟩ := fieldOk_some h1
    have ha := hρ _ _ h2
    simp only [opA] at ho
    split at ho
    · rename_i cs hq
      obtain ⟨z, hz, hzz⟩ := Option.map_eq_some_iff.1 ho
      simp only [Prod.mk.injEq] at hzz
      obtain ⟨rfl, rfl⟩ := hzz
      rw [hq] at ha
      obtain ⟨vs, hva, hl, hr⟩ := ha.agg_inv
      obtain ⟨v, g1, g2⟩ := run_part (P := P) u4 hl hr hz
      exact .light H (v := v) (by simp [execOp, Instr.field, run_underlying u1, u2, hva, asAgg, g1]) g2
    · cases ho
  ·
    rename_i t a i s a' i'
    simp only [Bool.and_eq_true] at hk
    obtain ⟨⟨h1, h2⟩, h3⟩ := hk
    obtain ⟨e, he, hs⟩ := any_elem h1
    obtain ⟨ie, hie, rfl⟩ := sizeOk_some hs
    have ha := hρ _ _ h2
    have hi := hρ _ _ h3
    simp only [opA] at ho
    split at ho
    · rename_i id v s' off len kk n hq1 hq2
      split at ho
      · rename_i hc
        obtain ⟨rfl, hn0, hn1⟩ := hc
        simp only [Option.some.injEq, Prod.mk.injEq] at ho
        obtain ⟨rfl, rfl⟩ := ho
        rw [hq1] at ha
        rw [hq2] at hi
        have hi := hi.int_inv
        obtain ⟨ad, cap, hva, hid, hlc, hl⟩ := ha.ref_inv
        refine .light H (v := .pointer (some (ad.add (n.toNat * ie.size)))) (by simp [execOp, Instr.indexAt, run_underlying he, hva, hi, asIntOf, hn0, hn1, sizeOf, typeInfo, hie]) (.ptr _ _ _ _ _ hid fun l hl' => ?_)
        obtain ⟨p1, p2⟩ := hl l hl'
        refine ⟨p1, fun hv => ?_⟩
        obtain ⟨q1, q2, q3⟩ := p2 hv
        rcases q3 with ⟨rfl, _⟩ | ⟨q3, _⟩
        · rw [add_mk, q1]
          simp only [Addr.mk.injEq, true_and, and_true, Nat.add_zero]
          rw [Nat.add_mul]; omega
        · omega
      · cases ho
    · rename_i xs kk n hq1 hq2
      split at ho
      · rename_i hn0
        split at ho
        · rename_i e' he'
          split at ho
          · rename_i hcl
            simp only [Option.some.injEq, Prod.mk.injEq] at ho
            obtain ⟨rfl, rfl⟩ := ho
            rw [hq1] at ha
            rw [hq2] at hi
            have hi := hi.int_inv
            have hlt := (List.getElem?_eq_some_iff.1 he').1
            cases hva : ρ a with
            | slice A L c =>
              rw [hva] at ha
              cases ha with
              | frz ha =>
                cases ha with
                | lst0 => simp at he'
                | lst _ ad cap s' vs hl hs' hb hz hc hr =>
                  have hss : s' = ie.size := by rw [← hs' e' (List.mem_of_getElem? he')]; exact hcl
                  subst hss
                  refine .light H (v := .pointer (some (ad.add (n.toNat * ie.size)))) ?_ (.frz (.fad e' _ (fun j => vs n.toNat j) (by rw [add_block]; exact hb) (by rw [add_block]; exact hz) (fun j hj => ?_) fun j y hy => hr _ _ e' y he' hy))
                  · have hn1 : n < (xs.length : Int) := by omega
                    simp [execOp, Instr.indexAt, run_underlying he, hva, hi, asIntOf, hn0, hn1, sizeOf, typeInfo, hie]
                  · rw [add_add]
                    exact hc _ j hlt (by rw [← hcl]; exact hj)
            | _ => rw [hva] at ha; cases ha with | frz ha => cases ha
          · cases ho
        · cases ho
      · cases ho
    · cases ho
  ·
    rename_i t a i n s ag a' i'
    simp only [Bool.and_eq_true] at hk
    obtain ⟨⟨h1, h2⟩, h3⟩ := hk
    obtain ⟨e, he, hs⟩ := arrOk_some h1
    have hsz : ∀ w, (sizeOf e).run P w = .ok s w := run_sizeOf hs
    have ha := hρ _ _ h2
    have hi := hρ _ _ h3
    simp only [opA] at ho
    split at ho
    · rename_i id v b j kk m hq1 hq2
      split at ho
      · rename_i hc
        simp only [Option.some.injEq, Prod.mk.injEq] at ho
        obtain ⟨rfl, rfl⟩ := ho
        rw [hq1] at ha
        rw [hq2] at hi
        have hi := hi.int_inv
        obtain ⟨ad, hva, hid, hl⟩ := ha.ptr_inv
        refine .light H (v := .pointer (some (ad.add (m.toNat * s)))) (by simp [execOp, Instr.indexAt, run_underlying he, hva, hi, asIntOf, hc.1, hc.2, hsz, Instr.sureAddr]) (.ptr _ _ _ _ _ hid fun l hl' => ?_)
        obtain ⟨p1, p2⟩ := hl l hl'
        refine ⟨p1, fun hv => ?_⟩
        rw [p2 hv, add_mk, Nat.add_assoc]
      · cases ho
    · rename_i y kk m hq1 hq2
      split at ho
      · rename_i hc
        obtain ⟨z, hz, hzz⟩ := Option.map_eq_some_iff.1 ho
        simp only [Prod.mk.injEq] at hzz
        obtain ⟨rfl, rfl⟩ := hzz
        rw [hq1] at ha
        rw [hq2] at hi
        have hi := hi.int_inv
        obtain ⟨ad, hva, _⟩ := ha.fad_inv
        rw [hva] at ha
        exact .light H (v := .pointer (some (ad.add (m.toNat * s)))) (by simp [execOp, Instr.indexAt, run_underlying he, hva, hi, asIntOf, hc.1, hc.2, hsz, Instr.sureAddr]) (fad_part ha hz)
      · cases ho
    · cases ho
  ·
    rename_i t a i n s ag a' i'
    simp only [Bool.and_eq_true] at hk
    obtain ⟨⟨h1, h2⟩, h3⟩ := hk
    obtain ⟨e, he, hs⟩ := arrOk_some h1
    have hsz : ∀ w, (sizeOf e).run P w = .ok s w := run_sizeOf hs
    have ha := hρ _ _ h2
    have hi := hρ _ _ h3
    simp only [opA] at ho
    split at ho
    · rename_i cs kk m hq1 hq2
      split at ho
      · rename_i hc
        obtain ⟨z, hz, hzz⟩ := Option.map_eq_some_iff.1 ho
        simp only [Prod.mk.injEq] at hzz
        obtain ⟨rfl, rfl⟩ := hzz
        rw [hq1] at ha
        rw [hq2] at hi
        have hi := hi.int_inv
        obtain ⟨vs, hva, hl, hr⟩ := ha.agg_inv
        obtain ⟨v, g1, g2⟩ := run_part (P := P) hs hl hr hz
        exact .light H (v := v) (by simp [execOp, Instr.index, run_underlying he, hva, hi, asIntOf, hc.1, hc.2, hsz, g1]) g2
      · cases ho
    · cases ho
  ·
    rename_i t a lo hi mx s a' lo' hi' mx'
    simp only [Bool.and_eq_true] at hk
    obtain ⟨⟨⟨⟨h1, h2⟩, h3⟩, h4⟩, h5⟩ := hk
    obtain ⟨e, he, hs⟩ := any_elem h1
    simp only [opA, Option.map_eq_some_iff, Prod.mk.injEq] at ho
    obtain ⟨_, ho, rfl, rfl⟩ := ho
    obtain ⟨v, g1, g2⟩ := slice_sound (P := P) he hs (hρ _ _ h2) (opt_rel hρ h3) (opt_rel hρ h4) (opt_rel hρ h5) ho
    exact .light H (v := v) (by simp only [execOp]; rw [Sem.run_bind, g1]; rfl) g2
  ·
    rename_i t l c s lim z l' c'
    simp only [Bool.and_eq_true] at hk
    obtain ⟨⟨h1, h2⟩, h3⟩ := hk
    obtain ⟨e, he, hs⟩ := any_elem h1
    simp only [Bool.and_eq_true] at hs
    obtain ⟨i, zv, g1, g2, g3, g4, g5⟩ := zeroOk_some hs.1
    obtain ⟨l1, l2⟩ := limOk2_some g1 hs.2
    simp only [opA] at ho
    obtain ⟨v, w', k', q1, q2, q3, q4⟩ := mk_sound (P := P) H he g1 g2 g4 l1 l2 (fun k w => (valOk_rel g3 k w).1) (valOk_rel g3 k w).2 (hρ _ _ h2) (hρ _ _ h3) ho
    exact .inl ⟨v, w', k', .inl (by simp only [execOp]; rw [Sem.run_bind, q1]; rfl), q2, q3, q4⟩
  ·
    rename_i a i i' a'
    simp only [Bool.and_eq_true, beq_iff_eq] at hk
    obtain ⟨rfl, h1⟩ := hk
    have ha := hρ _ _ h1
    simp only [opA] at ho
    split at ho
    · rename_i xs hq
      obtain ⟨z, hz, hzz⟩ := Option.map_eq_some_iff.1 ho
      simp only [Prod.mk.injEq] at hzz
      obtain ⟨rfl, rfl⟩ := hzz
      rw [hq] at ha
      obtain ⟨vs, hva, hl, hr⟩ := ha.tup_inv
      have hlt : i < vs.size := by rw [← hl]; exact (List.getElem?_eq_some_iff.1 hz).1
      exact .light H (v := vs.getD i undef) (by simp [execOp, Instr.extract, hva, hlt]) (hr i z hz)
    · cases ho
  ·
    rename_i a a'
    have ha := hρ _ _ hk
    simp only [opA] at ho
    split at ho
    · rename_i id v i j hq
      simp only [Option.some.injEq, Prod.mk.injEq] at ho
      obtain ⟨rfl, rfl⟩ := ho
      rw [hq] at ha
      obtain ⟨ad, hva, _⟩ := ha.ptr_inv
      exact .light H (v := .pointer (some ad)) (by simp [execOp, hva]) (by rw [hva] at ha; exact ha)
    · rename_i y hq
      simp only [Option.some.injEq, Prod.mk.injEq] at ho
      obtain ⟨rfl, rfl⟩ := ho
      rw [hq] at ha
      obtain ⟨ad, hva, _⟩ := ha.fad_inv
      exact .light H (v := .pointer (some ad)) (by simp [execOp, hva]) (by rw [hva] at ha; exact ha)
    · cases ho
  ·
    rename_i f fs cs f' fs' cs'
    simp only [Bool.and_eq_true, beq_iff_eq] at hk
    obtain ⟨⟨rfl, h1⟩, h2⟩ := hk
    simp only [opA, Option.some.injEq, Prod.mk.injEq] at ho
    obtain ⟨rfl, rfl⟩ := ho
    obtain ⟨a1, a2⟩ := args_rel hρ h1
    obtain ⟨b1, b2⟩ := args_rel hρ h2
    exact .light H (v := .func (.func f) (fs.map ρ) (cs.map ρ)) (by simp [execOp, Instr.makeFunc]) (.fn f _ _ _ _ a1 b1 a2 b2)
  ·
    rename_i args argTypes st a'
    split at hk
    · rename_i a t ha1 ht1
      obtain rfl := list_one ha1
      obtain rfl := list_one ht1
      simp only [Bool.and_eq_true] at hk
      obtain ⟨h1, h2⟩ := hk
      have ha := hρ _ _ h1
      simp only [opA, Option.map_eq_some_iff, Prod.mk.injEq] at ho
      obtain ⟨_, ho, rfl, rfl⟩ := ho
      unfold lenA at ho
      have sl : ∀ (A : Option Addr) (n c : Nat), st = false → ρ a = .slice A n c → OPost P k w ρ ⟨dst, .call { callee := .builtin .len, args := #[a], argTypes := #[t] }, type, pos, after, guard⟩ (.int .i64 n) h := by
        intro A n c hst hva
        subst hst
        obtain ⟨e, he⟩ := isSome_elem (by simpa using h2)
        exact .light H (v := .int .i64 n) (by simp [execOp, resolve, invoke, builtin, Builtin.len_, run_underlying he, hva, goInt]) (.frz (.int _ _))
      split at ho
      · rename_i hq
        simp only [Option.some.injEq] at ho
        subst ho
        rw [hq] at ha
        exact sl _ 0 _ rfl ha.nil_inv
      · rename_i hq
        simp only [Option.some.injEq] at ho
        subst ho
        rw [hq] at ha
        obtain ⟨A, c, hva, _⟩ := ha.emp_inv
        exact sl _ 0 _ rfl hva
      · rename_i hq
        simp only [Option.some.injEq] at ho
        subst ho
        rw [hq] at ha
        obtain ⟨A, hva⟩ := ha.zero_inv
        exact sl _ 0 _ rfl hva
      · rename_i xs hq
        simp only [Option.some.injEq] at ho
        subst ho
        rw [hq] at ha
        obtain ⟨A, c, hva⟩ := ha.lst_inv
        rcases hva with ⟨hva, _⟩ | ⟨hva, rfl⟩
        · exact sl _ _ _ rfl hva
        · exact sl _ 0 _ rfl hva
      · rename_i id v s off len hq
        simp only [Option.some.injEq] at ho
        subst ho
        rw [hq] at ha
        obtain ⟨A, c, hva, _⟩ := ha.ref_inv
        exact sl _ _ _ rfl hva
      · rename_i s hq
        simp only [Option.some.injEq] at ho
        subst ho
        rw [hq] at ha
        have hva := ha.str_inv
        simp only [if_true] at h2
        split at h2
        · rename_i hu
          exact .light H (v := .int .i64 s.size) (by simp [execOp, resolve, invoke, builtin, Builtin.len_, run_underlying hu, hva, goInt]) (.frz (.int _ _))
        · cases h2
      · cases ho
    · cases hk
  ·
    rename_i args argTypes a'
    split at hk
    · rename_i a t ha1 ht1
      obtain rfl := list_one ha1
      obtain rfl := list_one ht1
      simp only [Bool.and_eq_true] at hk
      obtain ⟨h1, h2⟩ := hk
      obtain ⟨e, he⟩ := isSome_elem h2
      have ha := hρ _ _ h1
      simp only [opA, Option.map_eq_some_iff, Prod.mk.injEq] at ho
      obtain ⟨_, ho, rfl, rfl⟩ := ho
      unfold capA at ho
      split at ho
      · rename_i hq
        simp only [Option.some.injEq] at ho
        subst ho
        rw [hq] at ha
        have hva := ha.nil_inv
        exact .light H (v := .int .i64 0) (by simp [execOp, resolve, invoke, builtin, Builtin.cap_, run_underlying he, hva, goInt]) (.frz (.int _ _))
      · rename_i hq
        simp only [Option.some.injEq] at ho
        subst ho
        rw [hq] at ha
        obtain ⟨A, c, hva, hc⟩ := ha.emp_inv
        obtain rfl := hc rfl
        exact .light H (v := .int .i64 0) (by simp [execOp, resolve, invoke, builtin, Builtin.cap_, run_underlying he, hva, goInt]) (.frz (.int _ _))
      · rename_i hq
        simp only [Option.some.injEq] at ho
        subst ho
        rw [hq] at ha
        obtain ⟨A, hva⟩ := ha.zero_inv
        exact .light H (v := .int .i64 0) (by simp [execOp, resolve, invoke, builtin, Builtin.cap_, run_underlying he, hva, goInt]) (.frz (.int _ _))
      · cases ho
    · cases hk
  ·
    rename_i args argTypes s lim a' b'
    split at hk
    · rename_i a b t u ha1 ht1
      obtain rfl := list_two ha1
      obtain rfl := list_two ht1
      simp only [Bool.and_eq_true] at hk
      obtain ⟨⟨⟨h1, h2⟩, h3⟩, h4⟩ := hk
      obtain ⟨e, he, hg⟩ := any_elem h3
      obtain ⟨e2, he2⟩ := isSome_elem h4
      obtain ⟨i, z, g1, g2, g3, g4, g5, g6⟩ := goodElem_some hg
      simp only [opA] at ho
      obtain ⟨v, w', k', q1, q2, q3, q4⟩ := app_sound (P := P) (ty := type) H he he2 g1 g2 g3 g4 g5 g6 (hρ _ _ h1) (hρ _ _ h2) ho
      exact .inl ⟨v, w', k', .inl (by simp [execOp, resolve, invoke, builtin, q1]), q2, q3, q4⟩
    · cases hk
  ·
    rename_i args argTypes s lim z a' b'
    split at hk
    · rename_i a b t u ha1 ht1
      obtain rfl := list_two ha1
      obtain rfl := list_two ht1
      simp only [Bool.and_eq_true] at hk
      obtain ⟨⟨⟨h1, h2⟩, h3⟩, h4⟩ := hk
      obtain ⟨e, he, hg⟩ := any_elem h3
      obtain ⟨ks, hks⟩ := Option.isSome_iff_exists.1 h4
      simp only [Bool.and_eq_true] at hg
      obtain ⟨i, zv, g1, g2, g3, g4, g5⟩ := zeroOk_some hg.1
      obtain ⟨l1, l2⟩ := limOk_some g1 hg.2
      have hb := hρ _ _ h2
      simp only [opA] at ho
      split at ho
      · rename_i m hq
        split at ho
        · rename_i hc
          obtain ⟨hm0, hm1, hcz⟩ := hc
          rw [hq] at hb
          have hvb := hb.int_inv
          obtain ⟨mn, rfl⟩ := Int.eq_ofNat_of_zero_le hm0
          rw [Int.toNat_natCast] at ho
          obtain ⟨v, w', k', q1, q2, q3, q4⟩ := appz_sound (P := P) (ty := type) H he (intTy_some hks) g1 g2 g4 l1 l2 (fun k w => (valOk_rel g3 k w).1) (valOk_rel g3 k w).2 g5 (hρ _ _ h1) (show mn ≤ lim by omega) ho
          exact .inl ⟨v, w', k', .inl (by simp [execOp, resolve, invoke, builtin, hvb, q1]), q2, q3, q4⟩
        · cases ho
      · cases ho
    · cases hk
  ·
    rename_i args argTypes s a' b'
    split at hk
    · rename_i a b t u ha1 ht1
      obtain rfl := list_two ha1
      obtain rfl := list_two ht1
      simp only [Bool.and_eq_true] at hk
      obtain ⟨⟨h1, h2⟩, h3⟩ := hk
      obtain ⟨e, he, hs⟩ := any_elem h3
      obtain ⟨ie, hie, hsz⟩ := sizeOk_some hs
      simp only [opA] at ho
      obtain ⟨v, w', q1, q2, q3, q4⟩ := copy_sound (P := P) (xT := u) (ty := type) H he hie hsz (hρ _ _ h1) (hρ _ _ h2) ho
      exact .inl ⟨v, w', k, .inl (by simp [execOp, resolve, invoke, builtin, q1]), q2, q3, q4⟩
    · cases hk
  ·
    rename_i args argTypes x' xs'
    obtain ⟨m1, m2⟩ := args_rel (k := k) (w := w) hρ hk
    simp only [opA, Option.map_eq_some_iff, Prod.mk.injEq] at ho
    obtain ⟨_, ho, rfl, rfl⟩ := ho
    have hl : (args.map ρ).toList.length = xs'.length + 1 := by
      have := m1; simp at this; simp [← this]
    cases hargs : (args.map ρ).toList with
    | nil => rw [hargs] at hl; simp at hl
    | cons v vs =>
      rw [hargs] at hl
      have hat : ∀ (i : Nat), (args.map ρ).getD i undef = (v :: vs).getD i undef := fun i => by
        rw [← hargs]
        simp [Array.getD_eq_getD_getElem?, List.getD_eq_getElem?_getD]
      have h0 := m2 0 (ρA x') rfl
      rw [hat] at h0
      simp only [List.getD_cons_zero] at h0
      obtain ⟨r, g1, g2⟩ := mm_sound (P := P) true (xs'.map ρA) (ρA x') v vs h0 (by simp at hl; simp [hl]) (fun i y hy => by
        have := m2 (i + 1) y (by simpa using hy)
        rw [hat] at this
        simpa using this) ho
      simp only [if_true] at g1
      exact .light H (v := r) (by simp only [execOp, resolve, Sem.run_bind, Sem.run_pure, Result.andThen_ok, invoke, builtin, Builtin.max_, hargs, g1]) g2
  ·
    rename_i args argTypes x' xs'
    obtain ⟨m1, m2⟩ := args_rel (k := k) (w := w) hρ hk
    simp only [opA, Option.map_eq_some_iff, Prod.mk.injEq] at ho
    obtain ⟨_, ho, rfl, rfl⟩ := ho
    have hl : (args.map ρ).toList.length = xs'.length + 1 := by
      have := m1; simp at this; simp [← this]
    cases hargs : (args.map ρ).toList with
    | nil => rw [hargs] at hl; simp at hl
    | cons v vs =>
      rw [hargs] at hl
      have hat : ∀ (i : Nat), (args.map ρ).getD i undef = (v :: vs).getD i undef := fun i => by
        rw [← hargs]
        simp [Array.getD_eq_getD_getElem?, List.getD_eq_getElem?_getD]
      have h0 := m2 0 (ρA x') rfl
      rw [hat] at h0
      simp only [List.getD_cons_zero] at h0
      obtain ⟨r, g1, g2⟩ := mm_sound (P := P) false (xs'.map ρA) (ρA x') v vs h0 (by simp at hl; simp [hl]) (fun i y hy => by
        have := m2 (i + 1) y (by simpa using hy)
        rw [hat] at this
        simpa using this) ho
      simp only [Bool.false_eq_true, if_false] at g1
      exact .light H (v := r) (by simp only [execOp, resolve, Sem.run_bind, Sem.run_pure, Result.andThen_ok, invoke, builtin, Builtin.min_, hargs, g1]) g2
  ·
    rename_i f args argTypes raw f' xs'
    simp only [Bool.and_eq_true, beq_iff_eq] at hk
    obtain ⟨rfl, h1⟩ := hk
    simp only [opA] at ho
    obtain ⟨hE, hS⟩ := callA_sound hC ho
    exact .inr ⟨f, args.map ρ, by simp [execOp, resolve, Deferred.ofValue, hfun, invoke, run_callFunc hE], hS k w _ H (args_rel hρ h1)⟩
  ·
    rename_i f args argTypes f' xs'
    simp only [Bool.and_eq_true, beq_iff_eq] at hk
    obtain ⟨rfl, h1⟩ := hk
    simp only [opA, Option.map_eq_some_iff, Prod.mk.injEq] at ho
    obtain ⟨_, ho, rfl, rfl⟩ := ho
    obtain ⟨hE, hS⟩ := callA_sound hC (callV_callA ho h)
    exact .inr ⟨f, args.map ρ, by simp [execOp, resolve, Deferred.ofValue, hfun, invoke, run_callFunc hE], hS k w _ H (args_rel hρ h1)⟩
  ·
    rename_i f args argTypes f' x'
    split at hk
    · rename_i a ha1
      obtain rfl := list_one ha1
      simp only [Bool.and_eq_true, beq_iff_eq] at hk
      obtain ⟨rfl, h1⟩ := hk
      have hx := hρ _ _ h1
      have one : ∀ y, VRel k w y (ρ a) → PW k w [y] (#[a].map ρ) := fun y hy => ⟨by simp, fun i z hz => by
        cases i with
        | zero => simp at hz; subst hz; simpa using hy
        | succ i => simp at hz⟩
      simp only [opA] at ho
      by_cases hn : ρA x' = .lst []
      · rw [hn] at ho hx
        rw [cloneA_nil] at ho
        split at ho
        · rename_i hh
          simp only [Option.some.injEq, Prod.mk.injEq] at ho
          obtain ⟨rfl, rfl⟩ := ho
          simp only [Bool.and_eq_true] at hh
          obtain ⟨h2, h3⟩ := hh
          obtain ⟨hc1, hq1, e1⟩ : ∃ h1, C f [.nil] h = some (.nil, h1) ∧ heapBeq h1 h = true := by
            unfold isNilR at h2
            split at h2
            · rename_i h1 hq; exact ⟨h1, hq, h2⟩
            · cases h2
          obtain ⟨hc2, hq2, e2⟩ : ∃ h1, C f [.emp false] h = some (.emp true, h1) ∧ heapBeq h1 h = true := by
            unfold isEmpR at h3
            split at h3
            · rename_i h1 hq; exact ⟨h1, hq, h3⟩
            · cases h3
          obtain rfl := heapBeq_eq e1
          obtain rfl := heapBeq_eq e2
          obtain ⟨hE, hS1⟩ := hC _ _ _ _ _ hq1
          obtain ⟨_, hS2⟩ := hC _ _ _ _ _ hq2
          refine .inr ⟨f, #[a].map ρ, by simp [execOp, resolve, Deferred.ofValue, hfun, invoke, run_callFunc hE], ?_⟩
          cases hx with
          | frz hx =>
            generalize hva : ρ a = va at hx
            cases hx with
            | lst0 ad cap hcap =>
              cases ad with
              | none =>
                obtain rfl := hcap rfl
                refine (hS1 k w _ H (one .nil (by rw [hva]; exact .frz .nil))).mono ?_
                rintro e w' ⟨v, k', rfl, hF, hH, hv⟩
                obtain rfl := hv.nil_inv
                exact ⟨_, k', rfl, hF, hH, .frz (.zero _)⟩
              | some ad =>
                refine (hS2 k w _ H (one (.emp false) (by rw [hva]; exact .frz (.emp false ad cap fun h => by cases h)))).mono ?_
                rintro e w' ⟨v, k', rfl, hF, hH, hv⟩
                obtain ⟨ad', cap', rfl, hc⟩ := hv.emp_inv
                obtain rfl := hc rfl
                exact ⟨_, k', rfl, hF, hH, .frz (.zero _)⟩
            | lst xs ad cap s vs hl hs hb hz hc hr =>
              refine (hS2 k w _ H (one (.emp false) (by rw [hva]; exact .frz (.emp false ad cap fun h => by cases h)))).mono ?_
              rintro e w' ⟨v, k', rfl, hF, hH, hv⟩
              obtain ⟨ad', cap', rfl, hc⟩ := hv.emp_inv
              obtain rfl := hc rfl
              exact ⟨_, k', rfl, hF, hH, .frz (.zero _)⟩
        · cases ho
      · rw [cloneA_ne hn] at ho
        obtain ⟨hE, hS⟩ := hC _ _ _ _ _ ho
        exact .inr ⟨f, #[a].map ρ, by simp [execOp, resolve, Deferred.ofValue, hfun, invoke, run_callFunc hE], hS k w _ H (one _ hx)⟩
    · cases hk
  ·
    rename_i f args argTypes f' x'
    split at hk
    · rename_i a ha1
      obtain rfl := list_one ha1
      simp only [Bool.and_eq_true, beq_iff_eq] at hk
      obtain ⟨rfl, h1⟩ := hk
      have hx := hρ _ _ h1
      have one : ∀ y, VRel k w y (ρ a) → PW k w [y] (#[a].map ρ) := fun y hy => ⟨by simp, fun i z hz => by
        cases i with
        | zero => simp at hz; subst hz; simpa using hy
        | succ i => simp at hz⟩
      simp only [opA] at ho
      by_cases hn : ρA x' = .lst []
      · rw [hn] at ho hx
        rw [cloneV_nil] at ho
        split at ho
        · rename_i hh
          simp only [Option.some.injEq, Prod.mk.injEq] at ho
          obtain ⟨rfl, rfl⟩ := ho
          simp only [Bool.and_eq_true] at hh
          obtain ⟨h2, h3⟩ := hh
          obtain ⟨hc1, hq1, e1⟩ : ∃ h1, C f [.nil] h = some (.nil, h1) ∧ heapBeq h1 h = true := by
            unfold isNilR at h2
            split at h2
            · rename_i h1 hq; exact ⟨h1, hq, h2⟩
            · cases h2
          obtain ⟨hc2, hq2, e2⟩ : ∃ h1, C f [.emp false] h = some (.emp true, h1) ∧ heapBeq h1 h = true := by
            unfold isEmpR at h3
            split at h3
            · rename_i h1 hq; exact ⟨h1, hq, h3⟩
            · cases h3
          obtain rfl := heapBeq_eq e1
          obtain rfl := heapBeq_eq e2
          obtain ⟨hE, hS1⟩ := hC _ _ _ _ _ hq1
          obtain ⟨_, hS2⟩ := hC _ _ _ _ _ hq2
          refine .inr ⟨f, #[a].map ρ, by simp [execOp, resolve, Deferred.ofValue, hfun, invoke, run_callFunc hE], ?_⟩
          cases hx with
          | frz hx =>
            generalize hva : ρ a = va at hx
            cases hx with
            | lst0 ad cap hcap =>
              cases ad with
              | none =>
                obtain rfl := hcap rfl
                refine (hS1 k w _ H (one .nil (by rw [hva]; exact .frz .nil))).mono ?_
                rintro e w' ⟨v, k', rfl, hF, hH, hv⟩
                obtain rfl := hv.nil_inv
                exact ⟨_, k', rfl, hF, hH, .frz (.lst0 _ _ fun _ => rfl)⟩
              | some ad =>
                refine (hS2 k w _ H (one (.emp false) (by rw [hva]; exact .frz (.emp false ad cap fun h => by cases h)))).mono ?_
                rintro e w' ⟨v, k', rfl, hF, hH, hv⟩
                obtain ⟨ad', cap', rfl, hc⟩ := hv.emp_inv
                obtain rfl := hc rfl
                exact ⟨_, k', rfl, hF, hH, .frz (.lst0 _ _ fun _ => rfl)⟩
            | lst xs ad cap s vs hl hs hb hz hc hr =>
              refine (hS2 k w _ H (one (.emp false) (by rw [hva]; exact .frz (.emp false ad cap fun h => by cases h)))).mono ?_
              rintro e w' ⟨v, k', rfl, hF, hH, hv⟩
              obtain ⟨ad', cap', rfl, hc⟩ := hv.emp_inv
              obtain rfl := hc rfl
              exact ⟨_, k', rfl, hF, hH, .frz (.lst0 _ _ fun _ => rfl)⟩
        · cases ho
      · rw [cloneV_ne hn] at ho
        obtain ⟨hE, hS⟩ := callA_sound hC ho
        exact .inr ⟨f, #[a].map ρ, by simp [execOp, resolve, Deferred.ofValue, hfun, invoke, run_callFunc hE], hS k w _ H (one _ hx)⟩
    · cases hk
  ·
    rename_i a args argTypes raw a' xs'
    simp only [Bool.and_eq_true] at hk
    obtain ⟨h1, h2⟩ := hk
    have ha := hρ _ _ h1
    simp only [opA] at ho
    split at ho
    · rename_i f fs cs hq
      rw [hq] at ha
      obtain ⟨vf, vc, hva, hf, hc, rf, rc⟩ := ha.fn_inv
      obtain ⟨hE, hS⟩ := callA_sound hC ho
      have hp : PW k w (fs ++ xs'.map ρA ++ cs) (vf ++ args.map ρ ++ vc) := ((show PW k w fs vf from ⟨hf, rf⟩).append (args_rel hρ h2)).append ⟨hc, rc⟩
      exact .inr ⟨f, vf ++ args.map ρ ++ vc, by simp [execOp, resolve, Deferred.ofValue, hva, invoke, run_callFunc hE], hS k w _ H hp⟩
    · cases ho
  · simp only [opA] at ho; cases ho
  · cases hk
end
end Go.AM

end
section
set_option linter.unusedVariables false
set_option linter.unusedSimpArgs false
namespace Go.AM
open Go
def guardOk (ops : List Oper) : Option (Nat × Bool) → Option (Nat × Bool) → Bool
  | none, none => true
  | some (j, w), some (t, w') => w == w' && decide (((ops[j]?).bind (·.dst)) = some t)
  | _, _ => false
def chkOper (P : Program) (nt : Nat) (ops : List Oper) (o : Oper) (ao : AOper) : Bool :=
  decide (o.dst = ao.d) && (match ao.d with | some d => decide (d < nt) | none => true) && chkOp P o.op ao.op && guardOk ops o.guard ao.g
def ERel (nt : Nat) (k : Kr) (w : World) (env : Env) (a : Act) : Prop := a.tmps.size = nt ∧ a.defers = [] ∧ ∀ t, VRel k w (get env t) (a.tmps.getD t undef)
theorem ERel.monow {nt k w k' w' env a} (E : ERel nt k w env a) (hF : Frw k w k' w') : ERel nt k' w' env a := ⟨E.1, E.2.1, fun t => (E.2.2 t).monow hF⟩
theorem ERel.mono {nt k w k' w' env a} (E : ERel nt k w env a) (hF : Fr k w k' w') : ERel nt k' w' env a := E.monow hF.toFrw
theorem ERel.put {nt k w env a} (E : ERel nt k w env a) {d : Option Nat} {x : AV} {v : Value} (hv : VRel k w x v) (hd : ∀ t, d = some t → t < nt) : ERel nt k w (put env d x) (a.put d v) := by
  cases d with
  | none => exact E
  | some d =>
    refine ⟨by simp [Act.put, E.1], E.2.1, fun t => ?_⟩
    have hlt := hd d rfl
    simp only [AM.put, AM.get, Act.put]
    split
    · rename_i ht
      subst ht
      have : t < a.tmps.size := by rw [E.1]; exact hlt
      simp [this]
      exact hv
    · rename_i ht
      have : d ≠ t := fun e => ht e.symm
      have := E.2.2 t
      simpa [Array.getElem?_setIfInBounds_ne ‹d ≠ t›] using this
section
variable {P : Program} {nt : Nat} {k : Kr} {h h' : Heap} {w : World} {env : Env} {a : Act}
theorem ERel.eval (E : ERel nt k w env a) : ∀ x y, opdOk x y = true → VRel k w (ev env y) (a.eval x) := by
  intro x y hxy
  cases x <;> cases y <;> simp only [opdOk, beq_iff_eq, reduceCtorEq, Bool.false_eq_true] at hxy
  · subst hxy; exact E.2.2 _
  · exact (valOk_rel hxy k w).1
  · subst hxy
    exact .frz (.fn _ [] [] #[] #[] rfl rfl (fun i x hx => by simp at hx) (fun i x hx => by simp at hx))
theorem oper_sound {C : CR} (hC : CSound P C) {ops : Array Oper} {o : Oper} {ao : AOper} {i : Nat} (hi : ops[i]? = some o) (hk : chkOper P nt ops.toList o ao = true) (E : ERel nt k w env a) (H : HRel k h w) {x : AV}
    (ho : operA C ao env h = some (x, h')) {Q : Exit → Act → World → Prop} {K : Act → World → Prop} (hK : ∀ v k' w', Fr k w k' w' → HRel k' h' w' → VRel k' w' x v → K (a.put o.dst v) w') : wpOp P ops Q i K a w := by
  simp only [chkOper, Bool.and_eq_true, decide_eq_true_eq] at hk
  obtain ⟨⟨⟨h1, h2⟩, h3⟩, h4⟩ := hk
  have go : ∀ (ho : opA C (ev env) h ao.op = some (x, h')), o.wp P a w K Q := by
    intro ho
    have hS := op_sound (P := P) (ρ := a.eval) (ρA := ev env) hC h3 E.eval (fun f => rfl) H ho
    unfold Oper.wp
    rcases hS with ⟨v, w', k', hr, hF, hH, hv⟩ | ⟨f, vargs, hr, hS⟩
    · rcases hr with hr | ⟨hr, rfl⟩
      · rw [hr]; exact hK v k' w' hF hH hv
      · rw [hr]; exact hK undef k' w' hF hH hv
    · rw [hr]
      refine hS.mono ?_
      rintro e w' ⟨v, k', rfl, hF, hH, hv⟩
      exact hK v k' w' hF hH hv
  unfold wpOp
  simp only [hi]
  unfold operA at ho
  unfold guardOk at h4
  cases hg : ao.g with
  | none =>
    rw [hg] at ho h4
    have hg2 : o.guard = none := by
      cases hh : o.guard with
      | none => rfl
      | some q => rw [hh] at h4; cases h4
    have hw : Region.wanted o (yielded ops a.tmps) = true := by simp [Region.wanted, hg2]
    rw [if_pos hw]
    exact .inl (go ho)
  | some tw =>
    obtain ⟨t, want⟩ := tw
    rw [hg] at ho h4
    obtain ⟨j, hg2, hd⟩ : ∃ j, o.guard = some (j, want) ∧ (ops[j]?).bind (·.dst) = some t := by
      cases hh : o.guard with
      | none => rw [hh] at h4; cases h4
      | some q =>
        obtain ⟨j, w'⟩ := q
        rw [hh] at h4
        simp only [Bool.and_eq_true, beq_iff_eq, decide_eq_true_eq] at h4
        obtain ⟨rfl, h5⟩ := h4
        exact ⟨j, rfl, by simpa using h5⟩
    simp only at ho
    split at ho
    · rename_i b hb
      have ht := E.2.2 t
      rw [hb] at ht
      have ht := ht.bool_inv
      have hy : yielded ops a.tmps j = some b := by
        unfold yielded
        rw [hd, Option.bind_some]
        have : a.tmps[t]? = some (.bool b) := by
          simp only [Array.getD_eq_getD_getElem?] at ht
          cases hq : a.tmps[t]? with
          | none => rw [hq] at ht; cases ht
          | some u => rw [hq] at ht; simp at ht; rw [ht]
        rw [this]
      have hw : Region.wanted o (yielded ops a.tmps) = (b == want) := by
        simp only [Region.wanted, hg2, hy]
        cases b <;> cases want <;> rfl
      rw [hw]
      split at ho
      · rename_i hbw
        subst hbw
        rw [if_pos (by simp)]
        exact .inl (go ho)
      · rename_i hbw
        simp only [Option.some.injEq, Prod.mk.injEq] at ho
        obtain ⟨rfl, rfl⟩ := ho
        rw [if_neg (by simpa using hbw)]
        exact hK undef k w (Fr.refl k w) H (.tup [] #[] rfl fun i x hx => by simp at hx)
    · rename_i hb
      simp only [Option.some.injEq, Prod.mk.injEq] at ho
      obtain ⟨rfl, rfl⟩ := ho
      have ht := E.2.2 t
      rw [hb] at ht
      obtain ⟨vs, ht, _⟩ := ht.tup_inv
      have hy : yielded ops a.tmps j = none := by
        unfold yielded
        rw [hd, Option.bind_some]
        simp only [Array.getD_eq_getD_getElem?] at ht
        cases hq : a.tmps[t]? with
        | none => rfl
        | some u =>
          rw [hq] at ht
          simp only [Option.getD_some] at ht
          subst ht
          rfl
      have hw : Region.wanted o (yielded ops a.tmps) = false := by
        simp only [Region.wanted, hg2, hy]
        cases want <;> rfl
      rw [hw, if_neg (by decide)]
      exact hK undef k w (Fr.refl k w) H (.tup [] #[] rfl fun i x hx => by simp at hx)
    · cases ho
theorem chk_dst {ops : List Oper} {o : Oper} {ao : AOper} (hk : chkOper P nt ops o ao = true) : o.dst = ao.d ∧ ∀ t, o.dst = some t → t < nt := by
  simp only [chkOper, Bool.and_eq_true, decide_eq_true_eq] at hk
  obtain ⟨⟨⟨h1, h2⟩, h3⟩, h4⟩ := hk
  refine ⟨h1, fun t ht => ?_⟩
  rw [h1] at ht
  rw [ht] at h2
  simpa using h2
theorem reg_sound {C : CR} (hC : CSound P C) {ops : Array Oper} {Q : Exit → Act → World → Prop} : ∀ (aops : List AOper) (i : Nat) (k : Kr) (h : Heap) (w : World) (env : Env) (a : Act) (env' : Env) (h' : Heap),
    i + aops.length = ops.size → (∀ (j : Nat) (ao : AOper), aops[j]? = some ao → ∃ o, ops[i + j]? = some o ∧ chkOper P nt ops.toList o ao = true) → ERel nt k w env a → HRel k h w → regA C aops env h = some (env', h') →
    (∀ a' k' w', Fr k w k' w' → HRel k' h' w' → ERel nt k' w' env' a' → Q .normal a' w') → wpOps P ops Q (List.range' i aops.length) a w := by
  intro aops
  induction aops with
  | nil =>
    intro i k h w env a env' h' _ _ E H hr hQ
    simp only [regA, Option.some.injEq, Prod.mk.injEq] at hr
    obtain ⟨rfl, rfl⟩ := hr
    exact hQ a k w (Fr.refl k w) H E
  | cons ao aops ih =>
    intro i k h w env a env' h' hl hch E H hr hQ
    simp only [regA] at hr
    obtain ⟨⟨x, h1⟩, ho, hr⟩ := Option.bind_eq_some_iff.1 hr
    obtain ⟨o, hio, hk⟩ := hch 0 ao rfl
    rw [Nat.add_zero] at hio
    rw [List.length_cons, List.range'_succ, wpOps_cons]
    obtain ⟨hd1, hd2⟩ := chk_dst hk
    refine oper_sound hC hio hk E H ho fun v k' w' hF hH hv => ?_
    refine ih (i + 1) k' h1 w' (AM.put env ao.d x) (a.put o.dst v) env' h' (by simp at hl; omega) (fun j ao' hj => ?_) ?_ hH hr fun a' k2 w2 hF2 hH2 E2 => hQ a' k2 w2 (hF.trans hF2) hH2 E2
    · obtain ⟨o', ho', hk'⟩ := hch (j + 1) ao' (by simpa using hj)
      exact ⟨o', by rw [← ho']; congr 1; omega, hk'⟩
    · rw [← hd1]
      exact (E.mono hF).put hv hd2
end
end Go.AM

end
section
set_option linter.unusedVariables false
set_option linter.unusedSimpArgs false
namespace Go.AM
open Go
def heavy : AOp → Bool
  | .alloc _ | .box _ | .bslice .. | .bslicef .. | .store .. | .app .. | .appz .. | .copy .. | .mk .. | .call .. | .callv .. | .clone .. | .clonev .. | .emp0 | .fail => true
  | _ => false
def isAlloc : AOp → Bool
  | .alloc _ => true
  | _ => false
def isLoad : AOp → Bool
  | .load .. => true
  | _ => false
def opdT : Opd → List Nat
  | .t n => [n]
  | _ => []
def optT : Option Opd → List Nat
  | some x => opdT x
  | none => []
def looks : AOp → List Nat
  | .mv x => opdT x
  | .pick c a b => opdT c ++ opdT a ++ opdT b
  | .bin _ x y => opdT x ++ opdT y
  | .un _ x => opdT x
  | .conv _ x => opdT x
  | .alloc _ => []
  | .box x => opdT x
  | .build _ ps => ps.flatMap fun p => opdT p.2.2
  | .bslice _ _ _ ps => ps.flatMap fun p => opdT p.2
  | .bslicef _ _ _ ps => ps.flatMap fun p => opdT p.2
  | .bslicev _ _ _ ps => ps.flatMap fun p => opdT p.2
  | .load _ _ a => opdT a
  | .store _ a x => opdT a ++ opdT x
  | .faddr _ _ _ x => opdT x
  | .fld _ _ _ x => opdT x
  | .iadr _ x i => opdT x ++ opdT i
  | .aadr _ _ _ x i => opdT x ++ opdT i
  | .aidx _ _ _ x i => opdT x ++ opdT i
  | .slice _ x lo hi mx => opdT x ++ optT lo ++ optT hi ++ optT mx
  | .len _ x => opdT x
  | .cap x => opdT x
  | .app _ _ x y => opdT x ++ opdT y
  | .appz _ _ _ x y => opdT x ++ opdT y
  | .copy _ x y => opdT x ++ opdT y
  | .mm _ x xs => opdT x ++ xs.flatMap opdT
  | .mk _ _ _ l c => opdT l ++ opdT c
  | .call _ _ xs => xs.flatMap opdT
  | .callp _ xs => xs.flatMap opdT
  | .callv _ x xs => opdT x ++ xs.flatMap opdT
  | .ext _ x => opdT x
  | .mkfn _ fs cs => fs.flatMap opdT ++ cs.flatMap opdT
  | .emp0 => []
  | .clone _ x => opdT x
  | .clonev _ x => opdT x
  | .nilc x => opdT x
  | .eqs _ _ x y => opdT x ++ opdT y
  | .fail => []
def AOper.looks (o : AOper) : List Nat := Go.AM.looks o.op ++ (match o.g with | some (t, _) => [t] | none => [])
theorem opA_congr {C : CR} {ρ ρ' : Opd → AV} {h : Heap} {o : AOp} (hv : ∀ v, ρ (.c v) = ρ' (.c v)) (hf : ∀ g, ρ (.f g) = ρ' (.f g)) (ht : ∀ t ∈ looks o, ρ (.t t) = ρ' (.t t)) : opA C ρ h o = opA C ρ' h o := by
  have one : ∀ x : Opd, (∀ t ∈ opdT x, t ∈ looks o) → ρ x = ρ' x := by
    intro x hx
    cases x with
    | t n => exact ht n (hx n (by simp [opdT]))
    | c v => exact hv v
    | f g => exact hf g
  have opt : ∀ x : Option Opd, (∀ t ∈ optT x, t ∈ looks o) → x.map ρ = x.map ρ' := by
    intro x hx
    cases x with
    | none => rfl
    | some x => simp only [Option.map_some]; rw [one x hx]
  have many : ∀ xs : List Opd, (∀ t ∈ xs.flatMap opdT, t ∈ looks o) → xs.map ρ = xs.map ρ' := by
    intro xs hxs
    exact List.map_congr_left fun x hx => one x fun t ht => hxs t (List.mem_flatMap.2 ⟨x, hx, ht⟩)
  cases o with
  | build z ps =>
    simp only [opA]
    congr 2
    exact List.map_congr_left fun p hp => by rw [one p.2.2 fun t ht => List.mem_flatMap.2 ⟨p, hp, ht⟩]
  | bslice n s z ps =>
    simp only [opA]
    have : ps.map (fun p => (p.1, ρ p.2)) = ps.map (fun p => (p.1, ρ' p.2)) := List.map_congr_left fun p hp => by rw [one p.2 fun t ht => List.mem_flatMap.2 ⟨p, hp, ht⟩]
    rw [this]
  | bslicef n s z ps =>
    simp only [opA]
    have : ps.map (fun p => ρ p.2) = ps.map (fun p => ρ' p.2) := List.map_congr_left fun p hp => by rw [one p.2 fun t ht => List.mem_flatMap.2 ⟨p, hp, ht⟩]
    rw [this]
  | bslicev n s z ps =>
    simp only [opA]
    have : ps.map (fun p => ρ p.2) = ps.map (fun p => ρ' p.2) := List.map_congr_left fun p hp => by rw [one p.2 fun t ht => List.mem_flatMap.2 ⟨p, hp, ht⟩]
    rw [this]
  | mv x => simp only [opA]; rw [one x fun t h => h]
  | pick c a b => simp only [opA]; rw [one c (by intro t h; simp [looks, h]), one a (by intro t h; simp [looks, h]), one b (by intro t h; simp [looks, h])]
  | bin op x y => simp only [opA]; rw [one x (by intro t h; simp [looks, h]), one y (by intro t h; simp [looks, h])]
  | un op x => simp only [opA]; rw [one x fun t h => h]
  | conv kk x => simp only [opA]; rw [one x fun t h => h]
  | alloc z => rfl
  | box x => simp only [opA]; rw [one x fun t h => h]
  | load s ag a => simp only [opA]; rw [one a fun t h => h]
  | store s x y => simp only [opA]; rw [one x (by intro t h; simp [looks, h]), one y (by intro t h; simp [looks, h])]
  | faddr off s ag x => simp only [opA]; rw [one x fun t h => h]
  | fld off s ag x => simp only [opA]; rw [one x fun t h => h]
  | iadr s x y => simp only [opA]; rw [one x (by intro t h; simp [looks, h]), one y (by intro t h; simp [looks, h])]
  | aadr n s ag x y => simp only [opA]; rw [one x (by intro t h; simp [looks, h]), one y (by intro t h; simp [looks, h])]
  | aidx n s ag x y => simp only [opA]; rw [one x (by intro t h; simp [looks, h]), one y (by intro t h; simp [looks, h])]
  | slice s x lo hi mx => simp only [opA]; rw [one x (by intro t h; simp [looks, h]), opt lo (by intro t h; simp [looks, h]), opt hi (by intro t h; simp [looks, h]), opt mx (by intro t h; simp [looks, h])]
  | len st x => simp only [opA]; rw [one x fun t h => h]
  | cap x => simp only [opA]; rw [one x fun t h => h]
  | app s lim x y => simp only [opA]; rw [one x (by intro t h; simp [looks, h]), one y (by intro t h; simp [looks, h])]
  | appz s lim z x y => simp only [opA]; rw [one x (by intro t h; simp [looks, h]), one y (by intro t h; simp [looks, h])]
  | copy s x y => simp only [opA]; rw [one x (by intro t h; simp [looks, h]), one y (by intro t h; simp [looks, h])]
  | mm mx x xs => simp only [opA]; rw [one x (by intro t h; simp [looks, h]), many xs (by intro t h; simp only [looks]; exact List.mem_append_right _ h)]
  | mk s lim z x y => simp only [opA]; rw [one x (by intro t h; simp [looks, h]), one y (by intro t h; simp [looks, h])]
  | call raw f xs => simp only [opA]; rw [many xs fun t h => h]
  | callp f xs => simp only [opA]; rw [many xs fun t h => h]
  | callv raw x xs => simp only [opA]; rw [one x (by intro t h; simp [looks, h]), many xs (by intro t h; simp only [looks]; exact List.mem_append_right _ h)]
  | ext i x => simp only [opA]; rw [one x fun t h => h]
  | mkfn f fs cs => simp only [opA]; rw [many fs (by intro t h; simp only [looks]; exact List.mem_append_left _ h), many cs (by intro t h; simp only [looks]; exact List.mem_append_right _ h)]
  | nilc x => simp only [opA]; rw [one x fun t h => h]
  | emp0 => rfl
  | clone f x => simp only [opA]; rw [one x fun t h => h]
  | clonev f x => simp only [opA]; rw [one x fun t h => h]
  | eqs ty neg x y => simp only [opA]; rw [one x (by intro t h; simp [looks, h]), one y (by intro t h; simp [looks, h])]
  | fail => rfl
theorem operA_congr {C : CR} {env env' : Env} {h : Heap} {o : AOper} (ht : ∀ t ∈ o.looks, get env t = get env' t) : operA C o env h = operA C o env' h := by
  unfold operA
  have h1 : opA C (ev env) h o.op = opA C (ev env') h o.op := opA_congr (fun _ => rfl) (fun _ => rfl) fun t h => ht t (List.mem_append_left _ h)
  cases hg : o.g with
  | none => exact h1
  | some tw =>
    obtain ⟨t, w⟩ := tw
    have h2 : get env t = get env' t := ht t (List.mem_append_right _ (by rw [hg]; simp))
    simp only [h2]
    split
    · split
      · exact h1
      · rfl
    · rfl
    · rfl
theorem opA_light {C : CR} {ρ : Opd → AV} {h h' : Heap} {o : AOp} {x : AV} (hh : heavy o = false) (ho : opA C ρ h o = some (x, h')) : h' = h ∧ (isLoad o = false → ∀ h2, opA C ρ h2 o = some (x, h2)) := by
  cases o <;> first | (cases hh; done) | skip
  case load s ag a =>
    simp only [opA, Option.map_eq_some_iff, Prod.mk.injEq] at ho
    obtain ⟨_, _, _, rfl⟩ := ho
    exact ⟨rfl, fun h => by cases h⟩
  all_goals
    simp only [opA] at ho ⊢
    (repeat' split at ho) <;> first | (cases ho; done) | skip
  all_goals (try simp only [Option.map_eq_some_iff, Prod.mk.injEq, Option.some.injEq] at ho)
  all_goals (try (obtain ⟨_, hq, rfl, rfl⟩ := ho))
  all_goals (try (obtain ⟨_, hq, rfl⟩ := ho))
  all_goals (try (obtain ⟨rfl, rfl⟩ := ho))
  all_goals refine ⟨rfl, fun _ h2 => ?_⟩
  all_goals simp_all
theorem operA_light {C : CR} {env : Env} {h h' : Heap} {o : AOper} {x : AV} (hh : heavy o.op = false) (ho : operA C o env h = some (x, h')) : h' = h ∧ (isLoad o.op = false → ∀ h2, operA C o env h2 = some (x, h2)) := by
  unfold operA at ho ⊢
  split at ho
  · exact opA_light hh ho
  · split at ho
    · split at ho
      · rename_i hb; simp only [hb, if_true]; exact opA_light hh ho
      · rename_i hb
        simp only [Option.some.injEq, Prod.mk.injEq] at ho
        obtain ⟨rfl, rfl⟩ := ho
        exact ⟨rfl, fun _ h2 => by rw [if_neg hb]⟩
    · simp only [Option.some.injEq, Prod.mk.injEq] at ho
      obtain ⟨rfl, rfl⟩ := ho
      exact ⟨rfl, fun _ h2 => rfl⟩
    · cases ho
def befOf (acc : List Nat) (o : Oper) : Nat := o.after.toList.foldl (fun s e => if Region.binds .any e then s ||| (2 ^ e.on ||| acc.getD e.on 0) else s) 0
def befs : List Oper → List Nat → List Nat
  | [], acc => acc
  | o :: r, acc => befs r (acc ++ [befOf acc o])
def bef (ops : List Oper) (i j : Nat) : Bool := ((befs ops []).getD i 0).testBit j
theorem foldl_or (acc : List Nat) : ∀ (es : List Edge) (s j : Nat), (es.foldl (fun s e => if Region.binds .any e then s ||| (2 ^ e.on ||| acc.getD e.on 0) else s) s).testBit j = true →
    s.testBit j = true ∨ ∃ e ∈ es, Region.binds .any e = true ∧ (j = e.on ∨ (acc.getD e.on 0).testBit j = true) := by
  intro es
  induction es with
  | nil => intro s j h; exact .inl h
  | cons e es ih =>
    intro s j h
    simp only [List.foldl_cons] at h
    rcases ih _ j h with h1 | ⟨e', he', h1⟩
    · split at h1
      · rename_i hb
        rw [Nat.testBit_or, Nat.testBit_or, Nat.testBit_two_pow] at h1
        simp only [Bool.or_eq_true, decide_eq_true_eq] at h1
        rcases h1 with h1 | h1 | h1
        · exact .inl h1
        · exact .inr ⟨e, List.mem_cons_self .., hb, .inl h1.symm⟩
        · exact .inr ⟨e, List.mem_cons_self .., hb, .inr h1⟩
      · exact .inl h1
    · exact .inr ⟨e', List.mem_cons_of_mem _ he', h1⟩
theorem befs_spec : ∀ (r : List Oper) (acc : List Nat) (i j : Nat), ((befs r acc).getD i 0).testBit j = true → i < acc.length ∧ (acc.getD i 0).testBit j = true ∨
    ∃ o, r[i - acc.length]? = some o ∧ acc.length ≤ i ∧ ∃ e ∈ o.after, Region.binds .any e = true ∧ (j = e.on ∨ (((befs r acc).getD e.on 0).testBit j = true ∧ e.on < i)) := by
  intro r
  induction r with
  | nil =>
    intro acc i j h
    simp only [befs] at h
    by_cases hi : i < acc.length
    · exact .inl ⟨hi, h⟩
    · simp [List.getD, List.getElem?_eq_none (show acc.length ≤ i by omega)] at h
  | cons o r ih =>
    intro acc i j h
    have keepacc : ∀ (r : List Oper) (acc : List Nat) (i : Nat), i < acc.length → (befs r acc).getD i 0 = acc.getD i 0 := by
      intro r
      induction r with
      | nil => intro acc i _; rfl
      | cons o r ih2 =>
        intro acc i hi
        simp only [befs]
        rw [ih2 _ i (by simp; omega)]
        simp only [List.getD_eq_getElem?_getD, List.getElem?_append_left hi]
    simp only [befs] at h
    rcases ih _ i j h with ⟨h1, h2⟩ | ⟨o', h1, h2, e, he, hb, h3⟩
    · by_cases hi : i < acc.length
      · left
        refine ⟨hi, ?_⟩
        simpa only [List.getD_eq_getElem?_getD, List.getElem?_append_left hi] using h2
      · have hi' : i = acc.length := by simp at h1; omega
        subst hi'
        right
        refine ⟨o, by simp, Nat.le_refl _, ?_⟩
        have h4 : (befOf acc o).testBit j = true := by simpa [List.getD_eq_getElem?_getD] using h2
        unfold befOf at h4
        rcases foldl_or acc _ 0 j h4 with h5 | ⟨e, he, hb, h5⟩
        · simp at h5
        · refine ⟨e, by simpa using he, hb, ?_⟩
          rcases h5 with h5 | h5
          · exact .inl h5
          · right
            have hlt : e.on < acc.length := by
              rcases Nat.lt_or_ge e.on acc.length with hlt | hge
              · exact hlt
              · simp [List.getD_eq_getElem?_getD, List.getElem?_eq_none hge] at h5
            refine ⟨?_, hlt⟩
            simp only [befs]
            rw [keepacc _ _ _ (by simp; omega)]
            simpa only [List.getD_eq_getElem?_getD, List.getElem?_append_left hlt] using h5
    · right
      simp only [List.length_append, List.length_cons, List.length_nil] at h1 h2
      refine ⟨o', ?_, by omega, e, he, hb, ?_⟩
      · rw [show i - acc.length = (i - (acc.length + 1)) + 1 by omega]
        simpa using h1
      · simp only [befs]
        exact h3
def calm (aops : List AOper) (p q : Nat) : Bool := (List.range aops.length).all fun j => !(decide (p ≤ j) && decide (j < q)) || !(aops[j]?.any fun o => heavy o.op)
def loose (ops : List Oper) (aops : List AOper) : Bool :=
  aops.zipIdx.any fun (o, j) => (aops.take j).zipIdx.any fun (q, i) => isAlloc q.op && isAlloc o.op && !bef ops j i
def chkDraw (ops : List Oper) (aops : List AOper) (plan : List (Nat × Nat)) : Bool :=
  let n := aops.length
  (ops.zipIdx.all fun (o, i) => o.after.all fun e => !Region.binds .any e || decide (e.on < i)) &&
  (aops.zipIdx.all fun (o, j) => (aops.take j).zipIdx.all fun (q, i) =>
    bef ops j i || (!(q.d.any fun t => o.looks.contains t || o.d == some t) && !(o.d.any fun t => q.looks.contains t) && (!(heavy q.op && heavy o.op) || isAlloc q.op && isAlloc o.op))) &&
  (!loose ops aops || aops.zipIdx.all fun (q, j) => !isAlloc q.op || (q.g.isNone && aops.zipIdx.all fun (o, i) =>
    (!heavy o.op || isAlloc o.op || bef ops i j) && (!isLoad o.op || bef ops i j || calm aops 0 i || plan.any fun (i', k) => i' == i && k == 0))) &&
  (aops.zipIdx.all fun (o, i) => !isLoad o.op || ((o.d.any fun d => !o.looks.contains d) && ((aops.drop (i + 1)).all fun q => !(q.d.any fun t => o.looks.contains t || o.d == some t)) &&
    (List.range (n + 1)).all fun p =>
      calm aops p i && calm aops i p ||
      (aops.zipIdx.any fun (q, j) => heavy q.op && (decide (p ≤ j) && bef ops i j || decide (j < p) && bef ops j i)) ||
      (plan.any fun (i', k) => i' == i && calm aops p k && calm aops k p && decide (k ≤ n))))
end Go.AM

end
section
set_option linter.unusedVariables false
set_option linter.unusedSimpArgs false
namespace Go.AM
open Go
structure Trace (C : CR) (aops : List AOper) (env : Env) (h : Heap) (env' : Env) (h' : Heap) where
  f : Nat → Env × Heap
  X : Nat → AV
  zero : f 0 = (env, h)
  last : f aops.length = (env', h')
  step : ∀ (i : Nat) (o : AOper), aops[i]? = some o → operA C o (f i).1 (f i).2 = some (X i, (f (i + 1)).2) ∧ (f (i + 1)).1 = put (f i).1 o.d (X i)
  heaps : ∀ i, i ≤ aops.length → (h :: heapsA C aops env h)[i]? = some (f i).2
theorem trace_of {C : CR} : ∀ (aops : List AOper) (env : Env) (h : Heap) (env' : Env) (h' : Heap), regA C aops env h = some (env', h') → Nonempty (Trace C aops env h env' h') := by
  intro aops
  induction aops with
  | nil =>
    intro env h env' h' hr
    simp only [regA, Option.some.injEq, Prod.mk.injEq] at hr
    obtain ⟨rfl, rfl⟩ := hr
    exact ⟨⟨fun _ => (env, h), fun _ => .undef, rfl, rfl, fun i o hi => by simp at hi, fun i hi => by
      have : i = 0 := by simpa using hi
      subst this
      rfl⟩⟩
  | cons o aops ih =>
    intro env h env' h' hr
    simp only [regA] at hr
    obtain ⟨⟨x, h1⟩, ho, hr⟩ := Option.bind_eq_some_iff.1 hr
    obtain ⟨T⟩ := ih _ _ _ _ hr
    refine ⟨⟨fun i => match i with | 0 => (env, h) | i + 1 => T.f i, fun i => match i with | 0 => x | i + 1 => T.X i, rfl, T.last, fun i o' hi => ?_, fun i hi => ?_⟩⟩
    · cases i with
      | zero =>
        simp at hi
        subst hi
        simp only [Nat.zero_add]
        rw [T.zero]
        exact ⟨ho, rfl⟩
      | succ i => exact T.step i o' (by simpa using hi)
    · cases i with
      | zero => rfl
      | succ i =>
        have := T.heaps i (by simpa using hi)
        simp only [List.getElem?_cons_succ]
        simp only [heapsA, ho]
        exact this
section
variable {C : CR} {aops : List AOper} {env env' : Env} {h h' : Heap} (T : Trace C aops env h env' h')
def ED (L : Nat → Bool) : Nat → Env
  | 0 => env
  | i + 1 => match aops[i]? with
    | some o => if L i then put (ED L i) o.d (T.X i) else ED L i
    | none => ED L i
theorem get_put_ne {env : Env} {d : Option Nat} {x : AV} {t : Nat} (h : d ≠ some t) : get (put env d x) t = get env t := by
  cases d with
  | none => rfl
  | some d =>
    simp only [put, get]
    rw [if_neg]
    exact fun e => h (by rw [e])
theorem get_put_eq {env : Env} {x : AV} {t : Nat} : get (put env (some t) x) t = x := by simp [put, get]
theorem calm_eq {p q : Nat} (hpq : p ≤ q) (hq : q ≤ aops.length) (hc : calm aops p q = true) : (T.f q).2 = (T.f p).2 := by
  induction q with
  | zero => have : p = 0 := by omega
            subst this; rfl
  | succ q ih =>
    by_cases hp : p = q + 1
    · subst hp; rfl
    · have hc' : calm aops p q = true := by
        unfold calm at hc ⊢
        rw [List.all_eq_true] at hc ⊢
        intro j hj
        have := hc j hj
        simp only [Bool.or_eq_true, Bool.not_eq_true', Bool.and_eq_false_iff, decide_eq_false_iff_not] at this ⊢
        rcases this with (this | this) | this
        · exact .inl (.inl this)
        · exact .inl (.inr (by omega))
        · exact .inr this
      have h1 := ih (by omega) (by omega) hc'
      obtain ⟨o, ho⟩ : ∃ o, aops[q]? = some o := ⟨aops[q], List.getElem?_eq_getElem (by omega)⟩
      obtain ⟨h2, _⟩ := T.step q o ho
      have hl : heavy o.op = false := by
        have := List.all_eq_true.1 hc q (List.mem_range.2 (by omega))
        simp only [ho, Option.any_some, Bool.or_eq_true, Bool.not_eq_true', Bool.and_eq_false_iff, decide_eq_false_iff_not] at this
        rcases this with (this | this) | this
        · omega
        · omega
        · exact this
      rw [← h1]
      exact (operA_light hl h2).1
theorem same_eq {p q : Nat} (hp : p ≤ aops.length) (hq : q ≤ aops.length) (h1 : calm aops p q = true) (h2 : calm aops q p = true) : (T.f p).2 = (T.f q).2 := by
  rcases Nat.le_total p q with h | h
  · exact (calm_eq T h hq h1).symm
  · exact calm_eq T h hp h2
end
section
variable {P : Program} {nt : Nat} {C : CR} {ops : Array Oper} {aops : List AOper} {plan : List (Nat × Nat)} {env env' : Env} {h h' : Heap}
def Closed (ops : Array Oper) (L : Nat → Bool) : Prop := ∀ (i : Nat) (o : Oper), ops[i]? = some o → L i = true → ∀ e ∈ o.after, Region.binds .any e = true → L e.on = true
theorem bef_in {L : Nat → Bool} (hL : Closed ops L) : ∀ (i j : Nat) (o : Oper), ops[i]? = some o → (∀ e ∈ o.after, Region.binds .any e = true → L e.on = true) → bef ops.toList i j = true → L j = true := by
  intro i
  induction i using Nat.strongRecOn with
  | _ i ih =>
    intro j o ho hw hb
    unfold bef at hb
    rcases befs_spec ops.toList [] i j hb with ⟨h1, _⟩ | ⟨o', h1, _, e, he, hbd, h2⟩
    · simp at h1
    · have ho' : o' = o := by
        rw [List.length_nil, Nat.sub_zero, Array.getElem?_toList, ho] at h1
        simpa using h1.symm
      subst ho'
      rcases h2 with rfl | ⟨h2, hlt⟩
      · exact hw e he hbd
      · have hin := hw e he hbd
        have : e.on < ops.size := by have := (Array.getElem?_eq_some_iff.1 ho).1; omega
        have hq : ops[e.on]? = some ops[e.on] := Array.getElem?_eq_getElem this
        exact ih e.on hlt j ops[e.on] hq (hL e.on ops[e.on] hq hin) h2
theorem bef_out {L : Nat → Bool} (hL : Closed ops L) {i j : Nat} (hi : L i = true) (hlt : i < ops.size) (hb : bef ops.toList i j = true) : L j = true :=
  have hq : ops[i]? = some ops[i] := Array.getElem?_eq_getElem hlt
  bef_in hL i j ops[i] hq (hL i _ hq hi) hb
theorem pair_of {α : Type} {l : List α} {p : α × Nat → α × Nat → Bool} (h : (l.zipIdx.all fun y => (l.take y.2).zipIdx.all fun x => p x y) = true) {i j : Nat} {a b : α} (hij : i < j) (hi : l[i]? = some a) (hj : l[j]? = some b) : p (a, i) (b, j) = true := by
  have h1 := List.all_eq_true.1 h (b, j) (by rw [List.mem_zipIdx_iff_getElem?]; exact hj)
  exact List.all_eq_true.1 h1 (a, i) (by rw [List.mem_zipIdx_iff_getElem?, List.getElem?_take, if_pos hij]; exact hi)
structure Draw (ops : Array Oper) (aops : List AOper) (plan : List (Nat × Nat)) : Prop where
  back : ∀ (i : Nat) (o : Oper), ops[i]? = some o → ∀ e ∈ o.after, Region.binds .any e = true → e.on < i
  pair : ∀ (i j : Nat) (q o : AOper), i < j → aops[i]? = some q → aops[j]? = some o → bef ops.toList j i = true ∨ ((∀ t, q.d = some t → t ∉ o.looks ∧ o.d ≠ some t) ∧ (∀ t, o.d = some t → t ∉ q.looks) ∧ (heavy q.op = false ∨ heavy o.op = false ∨ (isAlloc q.op = true ∧ isAlloc o.op = true ∧ loose ops.toList aops = true)))
  loos : loose ops.toList aops = true → ∀ (j : Nat) (q : AOper), aops[j]? = some q → isAlloc q.op = true → q.g = none ∧ ∀ (i : Nat) (o : AOper), aops[i]? = some o →
    (heavy o.op = true → isAlloc o.op = false → bef ops.toList i j = true) ∧ (isLoad o.op = true → bef ops.toList i j = true ∨ calm aops 0 i = true ∨ (i, 0) ∈ plan)
  load : ∀ (i : Nat) (o : AOper), aops[i]? = some o → isLoad o.op = true → (∃ d, o.d = some d ∧ d ∉ o.looks) ∧ (∀ (j : Nat) (q : AOper), i < j → aops[j]? = some q → ∀ t, q.d = some t → t ∉ o.looks ∧ o.d ≠ some t) ∧
    ∀ p, p ≤ aops.length → (calm aops p i = true ∧ calm aops i p = true) ∨ (∃ (j : Nat) (q : AOper), aops[j]? = some q ∧ heavy q.op = true ∧ ((p ≤ j ∧ bef ops.toList i j = true) ∨ (j < p ∧ bef ops.toList j i = true))) ∨
      ∃ kk, (i, kk) ∈ plan ∧ calm aops p kk = true ∧ calm aops kk p = true ∧ kk ≤ aops.length
theorem draw_of (hd : chkDraw ops.toList aops plan = true) : Draw ops aops plan := by
  simp only [chkDraw, Bool.and_eq_true] at hd
  obtain ⟨⟨⟨h1, h2⟩, h4⟩, h3⟩ := hd
  refine ⟨fun i o hi e he hb => ?_, fun i j q o hij hi hj => ?_, fun hlo j q hj hq => ?_, fun i o hi hl => ?_⟩
  · have := List.all_eq_true.1 h1 (o, i) (by rw [List.mem_zipIdx_iff_getElem?, Array.getElem?_toList]; exact hi)
    have := Array.all_eq_true_iff_forall_mem.1 this e he
    simpa [hb] using this
  · have := pair_of (p := fun x y => bef ops.toList y.2 x.2 || (!(x.1.d.any fun t => y.1.looks.contains t || y.1.d == some t) && !(y.1.d.any fun t => x.1.looks.contains t) && (!(heavy x.1.op && heavy y.1.op) || isAlloc x.1.op && isAlloc y.1.op))) h2 hij hi hj
    cases hbf : bef ops.toList j i with
    | true => exact .inl rfl
    | false =>
    simp only [hbf, Bool.false_or, Bool.and_eq_true, Bool.not_eq_true', Bool.or_eq_true] at this
    obtain ⟨⟨g1, g2⟩, g3⟩ := this
    · refine .inr ⟨fun t ht => ?_, fun t ht => ?_, ?_⟩
      · rw [ht] at g1
        simp only [Option.any_some, Bool.or_eq_false_iff, List.contains_eq_mem, decide_eq_false_iff_not, beq_eq_false_iff_ne] at g1
        exact ⟨g1.1, g1.2⟩
      · rw [ht] at g2
        simpa only [Option.any_some, List.contains_eq_mem, decide_eq_false_iff_not] using g2
      · rcases g3 with g3 | ⟨g3, g4⟩
        · rcases Bool.and_eq_false_iff.1 g3 with g | g
          · exact .inl g
          · exact .inr (.inl g)
        · refine .inr (.inr ⟨g3, g4, ?_⟩)
          refine List.any_eq_true.2 ⟨(o, j), by rw [List.mem_zipIdx_iff_getElem?]; exact hj, ?_⟩
          refine List.any_eq_true.2 ⟨(q, i), by rw [List.mem_zipIdx_iff_getElem?, List.getElem?_take, if_pos hij]; exact hi, ?_⟩
          simp [g3, g4, hbf]
  · rw [hlo] at h4
    simp only [Bool.not_true, Bool.false_or] at h4
    have h5 := List.all_eq_true.1 h4 (q, j) (by rw [List.mem_zipIdx_iff_getElem?]; exact hj)
    simp only [hq, Bool.not_true, Bool.false_or, Bool.and_eq_true, Option.isNone_iff_eq_none] at h5
    refine ⟨h5.1, fun i o hi => ?_⟩
    have h6 := List.all_eq_true.1 h5.2 (o, i) (by rw [List.mem_zipIdx_iff_getElem?]; exact hi)
    simp only [Bool.and_eq_true, Bool.or_eq_true, Bool.not_eq_true'] at h6
    refine ⟨fun a1 a2 => ?_, fun a1 => ?_⟩
    · rcases h6.1 with (h7 | h7) | h7
      · rw [a1] at h7; cases h7
      · rw [a2] at h7; cases h7
      · exact h7
    · rcases h6.2 with ((h7 | h7) | h7) | h7
      · rw [a1] at h7; cases h7
      · exact .inl h7
      · exact .inr (.inl h7)
      · obtain ⟨⟨i', kk⟩, hq', hp⟩ := List.any_eq_true.1 h7
        simp only [Bool.and_eq_true, beq_iff_eq] at hp
        obtain ⟨rfl, rfl⟩ := hp
        exact .inr (.inr hq')
  · have := List.all_eq_true.1 h3 (o, i) (by rw [List.mem_zipIdx_iff_getElem?]; exact hi)
    simp only [hl, Bool.not_true, Bool.false_or, Bool.and_eq_true] at this
    obtain ⟨⟨g1, g2⟩, g3⟩ := this
    refine ⟨?_, fun j q hij hj t ht => ?_, fun p hp => ?_⟩
    · cases hd : o.d with
      | none => rw [hd] at g1; cases g1
      | some d =>
        rw [hd] at g1
        exact ⟨d, rfl, by simpa using g1⟩
    · have := List.all_eq_true.1 g2 q (by
        refine List.mem_of_getElem? (i := j - (i + 1)) ?_
        rw [List.getElem?_drop, ← hj]
        congr 1; omega)
      rw [ht] at this
      simp only [Option.any_some, Bool.not_eq_true', Bool.or_eq_false_iff, List.contains_eq_mem, decide_eq_false_iff_not, beq_eq_false_iff_ne] at this
      exact ⟨this.1, this.2⟩
    · have := List.all_eq_true.1 g3 p (List.mem_range.2 (by omega))
      simp only [Bool.or_eq_true, Bool.and_eq_true] at this
      rcases this with (this | this) | this
      · exact .inl this
      · right; left
        obtain ⟨⟨q, j⟩, hq, hp⟩ := List.any_eq_true.1 this
        rw [List.mem_zipIdx_iff_getElem?] at hq
        simp only [Bool.and_eq_true, Bool.or_eq_true, decide_eq_true_eq] at hp
        exact ⟨j, q, hq, hp.1, hp.2⟩
      · right; right
        obtain ⟨⟨i', kk⟩, hq, hp⟩ := List.any_eq_true.1 this
        simp only [Bool.and_eq_true, beq_iff_eq, decide_eq_true_eq] at hp
        obtain ⟨⟨⟨rfl, a1⟩, a2⟩, a3⟩ := hp
        exact ⟨kk, hq, a1, a2, a3⟩
variable (T : Trace C aops env h env' h')
theorem looks_eq (D : Draw ops aops plan) (hn : aops.length = ops.size) {L : Nat → Bool} (hL : Closed ops L) {i : Nat} {o : AOper} (hi : aops[i]? = some o) (hLi : L i = false) (hw : ∀ j, bef ops.toList i j = true → L j = true) {t : Nat} (ht : t ∈ o.looks) :
    ∀ m, m ≤ aops.length → get (ED T L m) t = get (T.f (min m i)).1 t := by
  intro m
  induction m with
  | zero => intro _; rw [Nat.zero_min, T.zero]; rfl
  | succ m ih =>
    intro hm
    have ih := ih (by omega)
    obtain ⟨q, hq⟩ : ∃ q, aops[m]? = some q := ⟨aops[m], List.getElem?_eq_getElem (by omega)⟩
    obtain ⟨_, hs2⟩ := T.step m q hq
    simp only [ED, hq]
    rcases Nat.lt_trichotomy m i with hlt | heq | hgt
    · rw [show min (m + 1) i = m + 1 by omega, hs2]
      rw [show min m i = m by omega] at ih
      by_cases hd : q.d = some t
      · have hb : bef ops.toList i m = true := by
          rcases D.pair m i q o hlt hq hi with hb | ⟨g1, _⟩
          · exact hb
          · exact absurd ht (g1 t hd).1
        rw [if_pos (hw m hb), hd, get_put_eq, get_put_eq]
      · rw [get_put_ne hd]
        split
        · rw [get_put_ne hd]; exact ih
        · exact ih
    · subst heq
      rw [if_neg (by simp [hLi]), show min (m + 1) m = m by omega]
      rw [show min m m = m by omega] at ih
      exact ih
    · rw [show min (m + 1) i = i by omega]
      rw [show min m i = i by omega] at ih
      by_cases hd : q.d = some t
      · have hLm : L m = false := by
          cases hLm : L m with
          | false => rfl
          | true =>
            rcases D.pair i m o q hgt hi hq with hb | ⟨_, g2, _⟩
            · have := bef_out hL hLm (by omega) hb
              rw [hLi] at this; cases this
            · exact absurd ht (g2 t hd)
        rw [if_neg (by simp [hLm])]
        exact ih
      · split
        · rw [get_put_ne hd]; exact ih
        · exact ih
theorem ED_add (D : Draw ops aops plan) (hn : aops.length = ops.size) {L L' : Nat → Bool} (hL : Closed ops L) {i : Nat} {o : AOper} (hi : aops[i]? = some o) (hLi : L i = false) (hL' : ∀ j, L' j = (decide (j = i) || L j)) (t : Nat) :
    ∀ m, m ≤ aops.length → get (ED T L' m) t = if i < m ∧ o.d = some t then T.X i else get (ED T L m) t := by
  intro m
  induction m with
  | zero => intro _; simp [ED]
  | succ m ih =>
    intro hm
    have ih := ih (by omega)
    obtain ⟨q, hq⟩ : ∃ q, aops[m]? = some q := ⟨aops[m], List.getElem?_eq_getElem (by omega)⟩
    simp only [ED, hq, hL' m]
    by_cases hmi : m = i
    · subst hmi
      have hqo : q = o := by rw [hi] at hq; simpa using hq.symm
      subst hqo
      simp only [decide_true, Bool.true_or, if_true, hLi, Bool.false_eq_true, if_false]
      by_cases hd : q.d = some t
      · rw [hd, get_put_eq, if_pos ⟨by omega, rfl⟩]
      · rw [get_put_ne hd, if_neg (fun h => hd h.2)]
        rw [if_neg (fun h => hd h.2)] at ih
        exact ih
    · simp only [hmi, decide_false, Bool.false_or]
      by_cases hLm : L m = true
      · simp only [hLm, if_true]
        by_cases hd : q.d = some t
        · rw [hd, get_put_eq, get_put_eq]
          rw [if_neg]
          rintro ⟨h1, h2⟩
          have hlt : i < m := by omega
          rcases D.pair i m o q hlt hi hq with hb | ⟨g1, _⟩
          · have := bef_out hL hLm (by omega) hb
            rw [hLi] at this; cases this
          · exact (g1 t h2).2 hd
        · rw [get_put_ne hd, get_put_ne hd, ih]
          have : (i < m + 1 ∧ o.d = some t) ↔ (i < m ∧ o.d = some t) := by
            constructor
            · rintro ⟨h1, h2⟩; exact ⟨by omega, h2⟩
            · rintro ⟨h1, h2⟩; exact ⟨by omega, h2⟩
          simp only [this]
      · simp only [hLm, Bool.false_eq_true, if_false]
        rw [ih]
        have : (i < m + 1 ∧ o.d = some t) ↔ (i < m ∧ o.d = some t) := by
          constructor
          · rintro ⟨h1, h2⟩; exact ⟨by omega, h2⟩
          · rintro ⟨h1, h2⟩; exact ⟨by omega, h2⟩
        simp only [this]
theorem ED_all {L : Nat → Bool} (hL : ∀ j, j < aops.length → L j = true) : ∀ m, m ≤ aops.length → ED T L m = (T.f m).1 := by
  intro m
  induction m with
  | zero => intro _; rw [T.zero]; rfl
  | succ m ih =>
    intro hm
    obtain ⟨q, hq⟩ : ∃ q, aops[m]? = some q := ⟨aops[m], List.getElem?_eq_getElem (by omega)⟩
    obtain ⟨_, hs2⟩ := T.step m q hq
    simp only [ED, hq, hL m (by omega), if_true, ih (by omega), hs2]
theorem stable_load {plan : List (Nat × Nat)} {ops : Array Oper} (D : Draw ops aops plan) {i : Nat} {ao : AOper} (hai : aops[i]? = some ao) (hld : isLoad ao.op = true) (hst : plan.all (stableA C env' (h :: heapsA C aops env h) aops) = true) {kk : Nat} (hkk : (i, kk) ∈ plan) (hkn : kk ≤ aops.length) :
    operA C ao (T.f i).1 (T.f kk).2 = some (T.X i, (T.f kk).2) := by
  obtain ⟨hd, hlater, _⟩ := D.load i ao hai hld
  have hh : heavy ao.op = false := by
    cases ho : ao.op with
    | load s ag a => rfl
    | _ => rw [ho] at hld; cases hld
  have hil := (List.getElem?_eq_some_iff.1 hai).1
  obtain ⟨hs1, hs2⟩ := T.step i ao hai
  have hs := List.all_eq_true.1 hst _ hkk
  unfold stableA at hs
  rw [hai, T.heaps kk hkn] at hs
  simp only at hs
  have hlast : ∀ t, (t ∈ ao.looks ∨ ao.d = some t) → ∀ m, i < m → m ≤ aops.length → get (T.f m).1 t = get (T.f (i + 1)).1 t := by
    intro t ht m
    induction m with
    | zero => intro h; omega
    | succ m ihm =>
      intro h1 h2
      by_cases hmi : m = i
      · subst hmi; rfl
      · obtain ⟨q, hq⟩ : ∃ q, aops[m]? = some q := ⟨aops[m], List.getElem?_eq_getElem (by omega)⟩
        rw [(T.step m q hq).2, get_put_ne, ihm (by omega) (by omega)]
        intro hd'
        have := hlater m q (by omega) hq t hd'
        rcases ht with ht | ht
        · exact this.1 ht
        · exact this.2 ht
  have henv' : ∀ t, get env' t = get (T.f aops.length).1 t := fun t => by rw [T.last]
  obtain ⟨d, hdd, hself⟩ := hd
  have hX : get env' d = T.X i := by
    rw [henv' d, hlast d (.inr hdd) _ (by omega) (Nat.le_refl _), hs2, hdd, get_put_eq]
  have hlk : ∀ t ∈ ao.looks, get env' t = get (T.f i).1 t := by
    intro t ht
    rw [henv' t, hlast t (.inl ht) _ (by omega) (Nat.le_refl _), hs2, get_put_ne]
    rw [hdd]
    intro e
    simp only [Option.some.injEq] at e
    subst e
    exact hself ht
  rw [operA_congr hlk] at hs
  split at hs
  · rename_i q d' hq hd'
    rw [hdd] at hd'
    simp only [Option.some.injEq] at hd'
    subst hd'
    have := AV.beq_eq _ _ hs
    obtain ⟨x, h2⟩ := q
    simp only at this
    rw [hX] at this
    subst this
    rw [hq, (operA_light hh hq).1]
  · cases hs
end
end Go.AM

end
