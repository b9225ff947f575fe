/- Runs with unknowns: terms, facts, values, what they stand for; the operations are sound. -/
import Derived.Test.YtpdhahkeghblmaaGreatDoorShd4
set_option linter.unusedSimpArgs false
set_option linter.unusedVariables false
/- Runs with unknown numbers and unknown slices: what a function does at every argument of its types: values, formulas, facts. -/
namespace Go.Sym
open Go Go.Shd
noncomputable section

/-! ### Terms, formulas, values -/
inductive E where
  | v (n : Nat)
  | rd (s i : E) (sz off : Nat)
  | len (s : E)
  | int (k : IntKind) (n : Int)
  | bin (op : BinOp) (t : TypeId) (a b : E)
  | chr (s i : E)
  | conv (k : IntKind) (a : E)

inductive Cmp where
  | eq | lt | le

inductive F where
  | tt | ff
  | cmp (c : Cmp) (a b : E)
  | seq (a b : E)
  | atom (e : E)
  | no (f : F)
  | ite (c a b : F)

/-- What a cell of a slice's element holds. -/
inductive CK where
  | int (k : IntKind)
  | bool
  | str
  | sl (t : TypeId)

inductive SV where
  | lit (a : AV)
  | int (k : IntKind) (e : E)
  | bool (f : F)
  | str (e : E)
  | sl (t : TypeId) (e : E)
  | sub (t : TypeId) (e h : E)
  | em (b : Nat)
  | cpy (t : TypeId) (b : Nat) (e : E)
  | ptr (b off : Nat)
  | mp (t : TypeId) (e i : E) (off : Nat)
  | cp (t : TypeId) (e i : E) (b : Nat)
  | agg (l : List SV)
  | tup (l : List SV)
  | gd (f : F) (s : SV)
  deriving Inhabited

/-- A block of the call's own: its cells; or a copy of a slice. -/
inductive SB where
  | cells (t : TypeId) (l : List SV)
  | copy (e : E)

/-! ### Equality, decided -/
def cmpB : Cmp → Cmp → Bool
  | .eq, .eq | .lt, .lt | .le, .le => true
  | _, _ => false

def E.beq : E → E → Bool
  | .v a, .v b => Nat.beq a b
  | .rd s i z o, .rd s' i' z' o' => match Nat.beq o o' with
    | true => match Nat.beq z z' with
      | true => match E.beq i i' with
        | true => E.beq s s'
        | false => false
      | false => false
    | false => false
  | .len s, .len s' => E.beq s s'
  | .int k a, .int k' b => match decide (k = k') with
    | true => intBeq a b
    | false => false
  | .chr s i, .chr s' i' => match E.beq i i' with
    | true => E.beq s s'
    | false => false
  | .bin op t a b, .bin op' t' a' b' => match decide (op = op') with
    | true => match Nat.beq t t' with
      | true => match E.beq a a' with
        | true => E.beq b b'
        | false => false
      | false => false
    | false => false
  | .conv k a, .conv k' a' => match decide (k = k') with
    | true => E.beq a a'
    | false => false
  | _, _ => false

def F.beq : F → F → Bool
  | .tt, .tt => true
  | .ff, .ff => true
  | .cmp c a b, .cmp c' a' b' => match cmpB c c' with
    | true => match E.beq a a' with
      | true => E.beq b b'
      | false => false
    | false => false
  | .atom e, .atom e' => E.beq e e'
  | .no f, .no f' => F.beq f f'
  | .seq a b, .seq a' b' => match E.beq a a' with
    | true => E.beq b b'
    | false => false
  | .ite c a b, .ite c' a' b' => match F.beq c c' with
    | true => match F.beq a a' with
      | true => F.beq b b'
      | false => false
    | false => false
  | _, _ => false

/-! ### Facts -/
structure Fx where
  lt : List (E × E)
  le : List (E × E)
  eq : List (E × E)
  ne : List (E × E)
  bl : List (E × Bool)
  cx : List (F × Bool)
  al : List (E × E × E)

def pairIn (a b : E) : List (E × E) → Bool
  | [] => false
  | (x, y) :: l => match E.beq a x with
    | true => match E.beq b y with
      | true => true
      | false => pairIn a b l
    | false => pairIn a b l

/-- A constant, if the term is one or is known to be one. -/
def constE : E → Option Int
  | .int _ n => some n
  | _ => none

def eqConst (a : E) : List (E × E) → Option Int
  | [] => none
  | (x, y) :: l => match y with
    | .int _ n => match E.beq a x with
      | true => some n
      | false => eqConst a l
    | _ => match x with
      | .int _ n => match E.beq a y with
        | true => some n
        | false => eqConst a l
      | _ => eqConst a l

def valOf (fx : Fx) (a : E) : Option Int :=
  match a with
  | .int _ n => some n
  | a => eqConst a fx.eq

/-- The greatest constant that is known to lie below or at a term: of '≤' and of '<'. -/
def lowOf (a : E) : List (E × E) → Int → Int → Int
  | [], _, m => m
  | (x, y) :: l, d, m => match x with
    | .int _ n => match E.beq a y with
      | true => match intLt m (n + d) with
        | true => lowOf a l d (n + d)
        | false => lowOf a l d m
      | false => lowOf a l d m
    | _ => lowOf a l d m

def highOf (a : E) : List (E × E) → Int → Int → Int
  | [], _, m => m
  | (x, y) :: l, d, m => match y with
    | .int _ n => match E.beq a x with
      | true => match intLt (n - d) m with
        | true => highOf a l d (n - d)
        | false => highOf a l d m
      | false => highOf a l d m
    | _ => highOf a l d m

def bigNeg : Int := -9223372036854775808
def bigPos : Int := 9223372036854775807

def neConst (a : E) (n : Int) : List (E × E) → Bool
  | [] => false
  | (x, y) :: l => match y with
    | .int _ m => match intBeq n m with
      | true => match E.beq a x with
        | true => true
        | false => neConst a n l
      | false => neConst a n l
    | _ => neConst a n l

/-- The least number from n on that is not shut out. -/
def upFrom (a : E) (ne : List (E × E)) : Nat → Int → Int
  | 0, n => n
  | f + 1, n => match neConst a n ne with
    | true => upFrom a ne f (n + 1)
    | false => n

def nonneg (fx : Fx) (a : E) : Bool :=
  match a with
  | .int _ n => intLe 0 n
  | .len _ => true
  | a => match intLe 0 (lowOf a fx.le 0 (-1)) with
    | true => true
    | false => intLe 0 (lowOf a fx.lt 1 (-1))

/-- Some x of a list of pairs (a, x) that meets a test. -/
def someAfter (a : E) (p : E → Bool) : List (E × E) → Bool
  | [] => false
  | (x, y) :: l => match E.beq a x with
    | true => match p y with
      | true => true
      | false => someAfter a p l
    | false => someAfter a p l

/-- x ≤ n, in one step. -/
def leStep (fx : Fx) (n x : E) : Bool :=
  match E.beq x n with
  | true => true
  | false => match pairIn x n fx.le with
    | true => true
    | false => match pairIn x n fx.eq with
      | true => true
      | false => pairIn n x fx.eq

/-- A number above 0 by some pair (x, n) with 0 ≤ x < n. -/
def posBy (fx : Fx) (n : E) : List (E × E) → Bool
  | [] => false
  | (x, y) :: l => match E.beq n y with
    | true => match nonneg fx x with
      | true => true
      | false => posBy fx n l
    | false => posBy fx n l

def ltOk (fx : Fx) (i n : E) : Bool :=
  match someAfter i (leStep fx n) fx.lt with
  | true => true
  | false => match i with
    | .int _ c => match (match eqConst n fx.eq with
      | some m => intLt c m
      | none => false) with
      | true => true
      | false => match intLt c (lowOf n fx.le 0 (-1)) with
        | true => true
        | false => match intLt c (lowOf n fx.lt 1 (-1)) with
          | true => true
          | false => match intBeq c 0 with
            | true => posBy fx n fx.lt
            | false => false
    | _ => false

def leOk (fx : Fx) (i n : E) : Bool :=
  match leStep fx n i with
  | true => true
  | false => ltOk fx i n

/-! ### What is known of a formula -/
def cmpInt (c : Cmp) (a b : Int) : Bool :=
  match c with
  | .eq => intBeq a b
  | .lt => intLt a b
  | .le => intLe a b

def boolIn (e : E) : List (E × Bool) → Option Bool
  | [] => none
  | (x, b) :: l => match E.beq e x with
    | true => some b
    | false => boolIn e l

def loE (fx : Fx) (a : E) : Int := lowOf a fx.lt 1 (lowOf a fx.le 0 bigNeg)
def hiE (fx : Fx) (a : E) : Int := highOf a fx.lt 1 (highOf a fx.le 0 bigPos)
/-- By a term's bounds: against a number on the right, on the left. -/
def bndR (fx : Fx) (c : Cmp) (a : E) (y : Int) : Option Bool :=
  match c with
  | .lt => match intLt bigNeg (loE fx a) && intLe y (loE fx a) with
    | true => some false
    | false => match intLt (hiE fx a) bigPos && intLt (hiE fx a) y with
      | true => some true
      | false => none
  | .le => match intLt bigNeg (loE fx a) && intLt y (loE fx a) with
    | true => some false
    | false => match intLt (hiE fx a) bigPos && intLe (hiE fx a) y with
      | true => some true
      | false => none
  | .eq => none
def bndL (fx : Fx) (c : Cmp) (x : Int) (b : E) : Option Bool :=
  match c with
  | .lt => match intLt bigNeg (loE fx b) && intLt x (loE fx b) with
    | true => some true
    | false => match intLt (hiE fx b) bigPos && intLe (hiE fx b) x with
      | true => some false
      | false => none
  | .le => match intLt bigNeg (loE fx b) && intLe x (loE fx b) with
    | true => some true
    | false => match intLt (hiE fx b) bigPos && intLt (hiE fx b) x with
      | true => some false
      | false => none
  | .eq => none

def knownCmp (fx : Fx) (c : Cmp) (a b : E) : Option Bool :=
  match valOf fx a, valOf fx b with
  | some x, some y => some (cmpInt c x y)
  | none, some y => match c with
    | .eq => match neConst a y fx.ne with
      | true => some false
      | false =>
        (fun r hi => (fun lo => match intLe bigNeg y && intLt y lo with
          | true => some false
          | false => match intLe y bigPos && intLt hi y with
            | true => some false
            | false => match intLt bigNeg r && (intLt hi bigPos && intBeq lo hi) with
              | true => some (intBeq lo y)
              | false => none) (upFrom a fx.ne 40 r))
        (lowOf a fx.lt 1 (lowOf a fx.le 0 bigNeg)) (highOf a fx.lt 1 (highOf a fx.le 0 bigPos))
    | .lt => match pairIn a b fx.lt with
      | true => some true
      | false => match pairIn b a fx.le with
        | true => some false
        | false => bndR fx .lt a y
    | .le => match pairIn a b fx.le with
      | true => some true
      | false => match pairIn b a fx.lt with
        | true => some false
        | false => bndR fx .le a y
  | va, _ => match c with
    | .eq => match pairIn a b fx.eq with
      | true => some true
      | false => match pairIn a b fx.ne with
        | true => some false
        | false => none
    | .lt => match pairIn a b fx.lt with
      | true => some true
      | false => match pairIn b a fx.le with
        | true => some false
        | false => match va with
          | some x => bndL fx .lt x b
          | none => none
    | .le => match pairIn a b fx.le with
      | true => some true
      | false => match pairIn b a fx.lt with
        | true => some false
        | false => match va with
          | some x => bndL fx .le x b
          | none => none

def fIn (f : F) : List (F × Bool) → Option Bool
  | [] => none
  | (x, b) :: l => match F.beq f x with
    | true => some b
    | false => fIn f l

def both : Option Bool → Option Bool → Option Bool
  | some true, some true => some true
  | some false, some false => some false
  | _, _ => none

def known (fx : Fx) : F → Option Bool
  | .tt => some true
  | .ff => some false
  | .cmp c a b => knownCmp fx c a b
  | .seq _ _ => none
  | .atom e => boolIn e fx.bl
  | .no f => match known fx f with
    | some b => some (!b)
    | none => none
  | .ite c a b => match known fx c with
    | some true => known fx a
    | some false => known fx b
    | none => match both (known fx a) (known fx b) with
      | some r => some r
      | none => fIn (.ite c a b) fx.cx

/-- A formula is taken to be b. -/
def assume (fx : Fx) : F → Bool → Fx
  | .tt, _ => fx
  | .ff, _ => fx
  | .cmp c x y, b => match fx with
    | ⟨lt, le, eq, ne, bl, cx, al⟩ => match c, b with
      | .lt, true => ⟨(x, y) :: lt, le, eq, ne, bl, cx, al⟩
      | .lt, false => ⟨lt, (y, x) :: le, eq, ne, bl, cx, al⟩
      | .le, true => ⟨lt, (x, y) :: le, eq, ne, bl, cx, al⟩
      | .le, false => ⟨(y, x) :: lt, le, eq, ne, bl, cx, al⟩
      | .eq, true => ⟨lt, le, (x, y) :: eq, ne, bl, cx, al⟩
      | .eq, false => ⟨lt, le, eq, (x, y) :: ne, bl, cx, al⟩
  | .seq _ _, _ => fx
  | .atom e, b => match fx with
    | ⟨lt, le, eq, ne, bl, cx, al⟩ => ⟨lt, le, eq, ne, (e, b) :: bl, cx, al⟩
  | .no f, b => assume fx f (!b)
  | .ite c a d, b => match b, d, a with
    | true, .ff, a => assume (assume fx c true) a true
    | false, d, .tt => assume (assume fx c false) d false
    | b, d, a => match known fx c with
      | some true => assume fx a b
      | some false => assume fx d b
      | none => match known fx a, known fx d with
        | some x, none => match x, b with
          | true, false => assume (assume fx c false) d false
          | false, true => assume (assume fx c false) d true
          | _, _ => match fx with
            | ⟨lt, le, eq, ne, bl, cx, al⟩ => ⟨lt, le, eq, ne, bl, (.ite c a d, b) :: cx, al⟩
        | none, some y => match y, b with
          | true, false => assume (assume fx c true) a false
          | false, true => assume (assume fx c true) a true
          | _, _ => match fx with
            | ⟨lt, le, eq, ne, bl, cx, al⟩ => ⟨lt, le, eq, ne, bl, (.ite c a d, b) :: cx, al⟩
        | _, _ => match fx with
          | ⟨lt, le, eq, ne, bl, cx, al⟩ => ⟨lt, le, eq, ne, bl, (.ite c a d, b) :: cx, al⟩

/-- What is known of a formula, or comes of taking it the other way. -/
def knownX (fx : Fx) (f : F) : Option Bool :=
  match known fx f with
  | some b => some b
  | none => match known (assume fx f true) f with
    | some false => some false
    | _ => match known (assume fx f false) f with
      | some true => some true
      | _ => none

/-- What was put aside is taken again, now that more is known. -/
def refreshL : List (F × Bool) → Fx → Fx
  | [], fx => fx
  | (f, b) :: l, fx => refreshL l (assume fx f b)
def refresh (fx : Fx) : Fx :=
  match fx with
  | ⟨lt, le, eq, ne, bl, cx, al⟩ => refreshL cx ⟨lt, le, eq, ne, bl, [], al⟩
end
end Go.Sym
/- What the terms, formulas and facts of a run with unknowns stand for. -/
namespace Go.Sym
open Go Go.Shd
noncomputable section

theorem intBeq_iff {a b : Int} : intBeq a b = true ↔ a = b := by
  constructor
  · exact intBeq_eq'
  · rintro rfl; cases a <;> simp [intBeq]
theorem intLe_iff {a b : Int} : intLe a b = true ↔ a ≤ b := by
  cases a <;> cases b <;> simp [intLe] <;> omega
theorem intLt_iff {a b : Int} : intLt a b = true ↔ a < b := by
  unfold intLt
  have := @intLe_iff b a
  cases h : intLe b a <;> simp [h] at this ⊢ <;> omega

theorem E.beq_eq : ∀ {a b : E}, E.beq a b = true → a = b
  | .v a, .v b, h => by simp only [E.beq] at h; rw [Nat.eq_of_beq_eq_true h]
  | .rd s i z o, .rd s' i' z' o', h => by
    simp only [E.beq] at h
    split at h <;> try cases h
    split at h <;> try cases h
    split at h <;> try cases h
    rename_i _ h1 _ h2 _ h3
    rw [Nat.eq_of_beq_eq_true h1, Nat.eq_of_beq_eq_true h2, E.beq_eq h3, E.beq_eq h]
  | .len s, .len s', h => by simp only [E.beq] at h; rw [E.beq_eq h]
  | .int k a, .int k' b, h => by
    simp only [E.beq] at h
    split at h <;> try cases h
    rename_i h1
    rw [of_decide_eq_true h1, intBeq_iff.1 h]
  | .chr s i, .chr s' i', h => by
    simp only [E.beq] at h
    split at h <;> try cases h
    rename_i h1
    rw [E.beq_eq h1, E.beq_eq h]
  | .v _, .rd .., h | .v _, .len _, h | .v _, .int .., h | .v _, .bin .., h | .v _, .chr .., h | .v _, .conv .., h => by cases h
  | .rd .., .v _, h | .rd .., .len _, h | .rd .., .int .., h | .rd .., .bin .., h | .rd .., .chr .., h | .rd .., .conv .., h => by cases h
  | .len _, .v _, h | .len _, .rd .., h | .len _, .int .., h | .len _, .bin .., h | .len _, .chr .., h | .len _, .conv .., h => by cases h
  | .int .., .v _, h | .int .., .rd .., h | .int .., .len _, h | .int .., .bin .., h | .int .., .chr .., h | .int .., .conv .., h => by cases h
  | .bin op t x y, b, h => by
    cases b <;> simp only [E.beq] at h <;> try cases h
    split at h <;> try cases h
    split at h <;> try cases h
    split at h <;> try cases h
    rename_i _ h1 _ h2 _ h3
    rw [of_decide_eq_true h1, Nat.eq_of_beq_eq_true h2, E.beq_eq h3, E.beq_eq h]
  | .chr .., .v _, h | .chr .., .rd .., h | .chr .., .len _, h | .chr .., .int .., h | .chr .., .bin .., h | .chr .., .conv .., h => by cases h
  | .conv k x, b, h => by
    cases b <;> simp only [E.beq] at h <;> try cases h
    split at h <;> try cases h
    rename_i _ h1
    rw [of_decide_eq_true h1, E.beq_eq h]

theorem cmpB_eq {a b : Cmp} (h : cmpB a b = true) : a = b := by cases a <;> cases b <;> first | rfl | cases h
theorem F.beq_eq : ∀ {a b : F}, F.beq a b = true → a = b
  | .tt, b, h => by cases b <;> first | rfl | cases h
  | .ff, b, h => by cases b <;> first | rfl | cases h
  | .cmp c x y, b, h => by
    cases b <;> simp only [F.beq] at h <;> try cases h
    split at h <;> try cases h
    split at h <;> try cases h
    rename_i _ h1 _ h2
    rw [cmpB_eq h1, E.beq_eq h2, E.beq_eq h]
  | .seq x y, b, h => by
    cases b <;> simp only [F.beq] at h <;> try cases h
    split at h <;> try cases h
    rename_i _ h1
    rw [E.beq_eq h1, E.beq_eq h]
  | .atom e, b, h => by cases b <;> simp only [F.beq] at h <;> first | (rw [E.beq_eq h]; done) | cases h
  | .no f, b, h => by cases b <;> simp only [F.beq] at h <;> first | (rw [F.beq_eq h]; done) | cases h
  | .ite c x y, b, h => by
    cases b <;> simp only [F.beq] at h <;> try cases h
    split at h <;> try cases h
    split at h <;> try cases h
    rename_i _ h1 _ h2
    rw [F.beq_eq h1, F.beq_eq h2, F.beq_eq h]

/-! ### What a term reads as -/
section
variable (G : Globals)

/-- Cell j of a slice that came in. -/
def cellAt (a : AV) (j : Nat) : Option AV :=
  match a with
  | .lit (.slice (some ⟨g, o, none⟩) _ _) => (G g).bind fun cs => cs[o + j]?
  | _ => none

def lenAt (a : AV) : Option Nat :=
  match a with
  | .lit (.slice _ n _) => some n
  | .eslc => some 0
  | .str l => some l.length
  | _ => none

def ev (σ : List AV) : E → Option AV
  | .v n => σ[n]?
  | .rd s i sz off => match ev σ s, ev σ i with
    | some a, some (.int _ (.ofNat j)) => match lenAt a with
      | some n => if j < n then cellAt G a (j * sz + off) else none
      | none => none
    | _, _ => none
  | .len s => match ev σ s with
    | some a => (lenAt a).map fun n => .int .i64 (Int.ofNat n)
    | none => none
  | .int k n => some (.int k n)
  | .bin op t a b => match ev σ a, ev σ b with
    | some (.int k x), some (.int k' y) => match Go.binOp op t (.int k x) (.int k' y) with
      | .pure (.int k'' z) => some (.int k'' z)
      | _ => none
    | _, _ => none
  | .chr s i => match ev σ s, ev σ i with
    | some (.str l), some (.int _ (.ofNat j)) => (l[j]?).map fun b => .int .u8 (Int.ofNat b)
    | _, _ => none
  | .conv k a => match ev σ a with
    | some (.int _ x) => some (.int k (k.wrap x))
    | _ => none

def iv (σ : List AV) (e : E) : Option Int :=
  match ev G σ e with
  | some (.int _ n) => some n
  | _ => none

def evF (σ : List AV) : F → Option Bool
  | .tt => some true
  | .ff => some false
  | .cmp c a b => match iv G σ a, iv G σ b with
    | some x, some y => some (cmpInt c x y)
    | _, _ => none
  | .seq a b => match ev G σ a, ev G σ b with
    | some (.str x), some (.str y) => some (beqL x y)
    | _, _ => none
  | .atom e => match ev G σ e with
    | some (.lit (.bool b)) => some b
    | _ => none
  | .no f => (evF σ f).map (!·)
  | .ite c a b => match evF σ c with
    | some true => evF σ a
    | some false => evF σ b
    | none => none

def Ext (σ σ' : List AV) : Prop := ∃ τ, σ' = σ ++ τ
theorem Ext.refl (σ : List AV) : Ext σ σ := ⟨[], (List.append_nil _).symm⟩
theorem Ext.trans {a b c : List AV} (h : Ext a b) (k : Ext b c) : Ext a c := by
  obtain ⟨x, rfl⟩ := h; obtain ⟨y, rfl⟩ := k; exact ⟨x ++ y, List.append_assoc _ _ _⟩
theorem Ext.get {σ σ' : List AV} (h : Ext σ σ') {n : Nat} {a : AV} (hn : σ[n]? = some a) : σ'[n]? = some a := by
  obtain ⟨τ, rfl⟩ := h
  rw [List.getElem?_append_left (List.getElem?_eq_some_iff.1 hn).1]; exact hn

variable {G}
theorem ev_ext {σ σ' : List AV} (h : Ext σ σ') : ∀ {e : E} {a : AV}, ev G σ e = some a → ev G σ' e = some a
  | .v n, a, hn => h.get hn
  | .rd s i sz off, a, hn => by
    unfold ev at hn ⊢
    cases hs : ev G σ s with
    | none => rw [hs] at hn; cases hn
    | some x =>
      cases hi : ev G σ i with
      | none => rw [hs, hi] at hn; cases hn
      | some y => rw [hs, hi] at hn; rw [ev_ext h hs, ev_ext h hi]; exact hn
  | .len s, a, hn => by
    unfold ev at hn ⊢
    cases hs : ev G σ s with
    | none => rw [hs] at hn; cases hn
    | some x => rw [hs] at hn; rw [ev_ext h hs]; exact hn
  | .int k n, a, hn => hn
  | .bin op t x y, a, hn => by
    unfold ev at hn ⊢
    cases hs : ev G σ x with
    | none => rw [hs] at hn; cases hn
    | some u =>
      cases hi : ev G σ y with
      | none => rw [hs, hi] at hn; cases u <;> cases hn
      | some w => rw [hs, hi] at hn; rw [ev_ext h hs, ev_ext h hi]; exact hn
  | .chr s i, a, hn => by
    unfold ev at hn ⊢
    cases hs : ev G σ s with
    | none => rw [hs] at hn; cases hn
    | some u =>
      cases hi : ev G σ i with
      | none => rw [hs, hi] at hn; cases u <;> cases hn
      | some w => rw [hs, hi] at hn; rw [ev_ext h hs, ev_ext h hi]; exact hn
  | .conv k x, a, hn => by
    unfold ev at hn ⊢
    cases hs : ev G σ x with
    | none => rw [hs] at hn; cases hn
    | some u => rw [hs] at hn; rw [ev_ext h hs]; exact hn

theorem iv_ext {σ σ' : List AV} (h : Ext σ σ') {e : E} {a : Int} (hn : iv G σ e = some a) : iv G σ' e = some a := by
  unfold iv at hn ⊢
  cases hs : ev G σ e with
  | none => rw [hs] at hn; cases hn
  | some u => rw [hs] at hn; rw [ev_ext h hs]; exact hn

theorem evF_ext {σ σ' : List AV} (h : Ext σ σ') : ∀ {f : F} {b : Bool}, evF G σ f = some b → evF G σ' f = some b
  | .tt, b, hn => hn
  | .ff, b, hn => hn
  | .cmp c x y, b, hn => by
    unfold evF at hn ⊢
    cases hs : iv G σ x with
    | none => rw [hs] at hn; cases hn
    | some u =>
      cases hi : iv G σ y with
      | none => rw [hs, hi] at hn; cases hn
      | some w => rw [hs, hi] at hn; rw [iv_ext h hs, iv_ext h hi]; exact hn
  | .seq x y, b, hn => by
    unfold evF at hn ⊢
    cases hs : ev G σ x with
    | none => rw [hs] at hn; cases hn
    | some u =>
      cases hi : ev G σ y with
      | none => rw [hs, hi] at hn; cases u <;> cases hn
      | some w => rw [hs, hi] at hn; rw [ev_ext h hs, ev_ext h hi]; exact hn
  | .atom e, b, hn => by
    unfold evF at hn ⊢
    cases hs : ev G σ e with
    | none => rw [hs] at hn; cases hn
    | some u => rw [hs] at hn; rw [ev_ext h hs]; exact hn
  | .no f, b, hn => by
    unfold evF at hn ⊢
    cases hs : evF G σ f with
    | none => rw [hs] at hn; cases hn
    | some u => rw [hs] at hn; rw [evF_ext h hs]; exact hn
  | .ite c x y, b, hn => by
    unfold evF at hn ⊢
    cases hs : evF G σ c with
    | none => rw [hs] at hn; cases hn
    | some u =>
      rw [hs] at hn; rw [evF_ext h hs]
      cases u with
      | true => exact evF_ext h hn
      | false => exact evF_ext h hn

/-! ### Facts -/
def P2 (G : Globals) (σ : List AV) (r : Int → Int → Prop) (p : E × E) : Prop := ∃ x y, iv G σ p.1 = some x ∧ iv G σ p.2 = some y ∧ r x y
def AllOk (G : Globals) (σ : List AV) (p : E × E × E) : Prop :=
  ∃ a N H, ev G σ p.1 = some a ∧ iv G σ p.2.1 = some N ∧ iv G σ p.2.2 = some H ∧ ∀ j : Nat, (j : Int) < N → ∃ k x, cellAt G a j = some (.int k x) ∧ 0 ≤ x ∧ x < H

structure FxOk (G : Globals) (σ : List AV) (fx : Fx) : Prop where
  lt : ∀ p ∈ fx.lt, P2 G σ (· < ·) p
  le : ∀ p ∈ fx.le, P2 G σ (· ≤ ·) p
  eq : ∀ p ∈ fx.eq, P2 G σ (· = ·) p
  ne : ∀ p ∈ fx.ne, P2 G σ (· ≠ ·) p
  bl : ∀ p ∈ fx.bl, ev G σ p.1 = some (.lit (.bool p.2))
  cx : ∀ p ∈ fx.cx, evF G σ p.1 = some p.2
  al : ∀ p ∈ fx.al, AllOk G σ p

theorem P2.ext {σ σ' : List AV} (h : Ext σ σ') {r : Int → Int → Prop} {p : E × E} (hp : P2 G σ r p) : P2 G σ' r p := by
  obtain ⟨x, y, h1, h2, h3⟩ := hp; exact ⟨x, y, iv_ext h h1, iv_ext h h2, h3⟩
theorem FxOk.ext {σ σ' : List AV} (h : Ext σ σ') {fx : Fx} (hf : FxOk G σ fx) : FxOk G σ' fx where
  lt p hp := (hf.lt p hp).ext h
  le p hp := (hf.le p hp).ext h
  eq p hp := (hf.eq p hp).ext h
  ne p hp := (hf.ne p hp).ext h
  bl p hp := ev_ext h (hf.bl p hp)
  cx p hp := evF_ext h (hf.cx p hp)
  al p hp := by obtain ⟨a, N, H, h1, h2, h3, h4⟩ := hf.al p hp; exact ⟨a, N, H, ev_ext h h1, iv_ext h h2, iv_ext h h3, h4⟩

variable {σ : List AV} {fx : Fx}

theorem pairIn_mem {a b : E} : ∀ {l : List (E × E)}, pairIn a b l = true → (a, b) ∈ l
  | [], h => by cases h
  | (x, y) :: l, h => by
    simp only [pairIn] at h
    split at h
    · rename_i h1
      split at h
      · rename_i h2; rw [E.beq_eq h1, E.beq_eq h2]; exact List.mem_cons_self
      · exact List.mem_cons_of_mem _ (pairIn_mem h)
    · exact List.mem_cons_of_mem _ (pairIn_mem h)

theorem iv_int {k : IntKind} {n : Int} : iv G σ (.int k n) = some n := by simp [iv, ev]

theorem eqConst_ok {a : E} {n : Int} : ∀ {l : List (E × E)}, (∀ p ∈ l, P2 G σ (· = ·) p) → eqConst a l = some n → iv G σ a = some n
  | [], _, h => by cases h
  | (x, y) :: l, hl, h => by
    have ih := fun h => eqConst_ok (a := a) (n := n) (l := l) (fun p hp => hl p (List.mem_cons_of_mem _ hp)) h
    obtain ⟨u, w, h1, h2, h3⟩ := hl (x, y) List.mem_cons_self
    simp only at h1 h2 h3
    subst h3
    unfold eqConst at h
    split at h
    · split at h
      · rename_i hb
        cases h
        rw [iv_int] at h2
        rw [E.beq_eq hb, h1, h2]
      · exact ih h
    · split at h
      · split at h
        · rename_i hb
          cases h
          rw [iv_int] at h1
          rw [E.beq_eq hb, h2, h1]
        · exact ih h
      · exact ih h

theorem valOf_ok (hf : FxOk G σ fx) {a : E} {n : Int} (h : valOf fx a = some n) : iv G σ a = some n := by
  unfold valOf at h
  split at h
  · cases h; exact iv_int
  · exact eqConst_ok hf.eq h

theorem lowOf_ok {r : Int → Int → Prop} {d : Int} (hr : ∀ x y, r x y → x + d ≤ y) {a : E} {v : Int} (hv : iv G σ a = some v) : ∀ {l : List (E × E)} {m : Int}, (∀ p ∈ l, P2 G σ r p) → m ≤ v → lowOf a l d m ≤ v
  | [], m, _, h => h
  | (x, y) :: l, m, hl, h => by
    have hl' := fun p hp => hl p (List.mem_cons_of_mem _ hp)
    obtain ⟨u, w, h1, h2, h3⟩ := hl (x, y) List.mem_cons_self
    simp only at h1 h2
    unfold lowOf
    split
    · split
      · rename_i hb
        rw [iv_int] at h1
        cases h1
        rw [← E.beq_eq hb, hv] at h2
        cases h2
        split
        · exact lowOf_ok hr hv hl' (hr _ _ h3)
        · exact lowOf_ok hr hv hl' h
      · exact lowOf_ok hr hv hl' h
    · exact lowOf_ok hr hv hl' h

theorem highOf_ok {r : Int → Int → Prop} {d : Int} (hr : ∀ x y, r x y → x ≤ y - d) {a : E} {v : Int} (hv : iv G σ a = some v) : ∀ {l : List (E × E)} {m : Int}, (∀ p ∈ l, P2 G σ r p) → v ≤ m → v ≤ highOf a l d m
  | [], m, _, h => h
  | (x, y) :: l, m, hl, h => by
    have hl' := fun p hp => hl p (List.mem_cons_of_mem _ hp)
    obtain ⟨u, w, h1, h2, h3⟩ := hl (x, y) List.mem_cons_self
    simp only at h1 h2
    unfold highOf
    split
    · split
      · rename_i hb
        rw [iv_int] at h2
        cases h2
        rw [← E.beq_eq hb, hv] at h1
        cases h1
        split
        · exact highOf_ok hr hv hl' (hr _ _ h3)
        · exact highOf_ok hr hv hl' h
      · exact highOf_ok hr hv hl' h
    · exact highOf_ok hr hv hl' h

theorem neConst_ok {a : E} {n : Int} : ∀ {l : List (E × E)}, (∀ p ∈ l, P2 G σ (· ≠ ·) p) → neConst a n l = true → iv G σ a ≠ some n
  | [], _, h => by cases h
  | (x, y) :: l, hl, h => by
    have ih := fun h => neConst_ok (a := a) (n := n) (l := l) (fun p hp => hl p (List.mem_cons_of_mem _ hp)) h
    obtain ⟨u, w, h1, h2, h3⟩ := hl (x, y) List.mem_cons_self
    simp only at h1 h2 h3
    unfold neConst at h
    split at h
    · split at h
      · rename_i hn
        split at h
        · rename_i hb
          rw [iv_int] at h2
          cases h2
          rw [E.beq_eq hb, h1, intBeq_iff.1 hn]
          simpa using h3
        · exact ih h
      · exact ih h
    · exact ih h

theorem upFrom_ok {a : E} {v : Int} (hv : iv G σ a = some v) {l : List (E × E)} (hl : ∀ p ∈ l, P2 G σ (· ≠ ·) p) : ∀ {f : Nat} {n : Int}, n ≤ v → upFrom a l f n ≤ v
  | 0, n, h => h
  | f + 1, n, h => by
    unfold upFrom
    split
    · rename_i hn
      refine upFrom_ok hv hl ?_
      have := neConst_ok hl hn
      rw [hv] at this
      have h2 : v ≠ n := by simpa using this
      omega
    · exact h

theorem nonneg_ok (hf : FxOk G σ fx) {a : E} {v : Int} (hv : iv G σ a = some v) (h : nonneg fx a = true) : 0 ≤ v := by
  unfold nonneg at h
  split at h
  · rw [iv_int] at hv; cases hv; exact intLe_iff.1 h
  · rename_i s
    unfold iv ev at hv
    cases hs : ev G σ s with
    | none => rw [hs] at hv; cases hv
    | some x =>
      rw [hs] at hv
      cases hl : lenAt x with
      | none => simp [hl] at hv
      | some n => simp [hl] at hv; omega
  · split at h
    · rename_i h1
      by_cases hn : -1 ≤ v
      · have := intLe_iff.1 h1
        have := lowOf_ok (d := 0) (fun x y (h : x ≤ y) => by omega) hv hf.le hn
        omega
      · by_cases hz : 0 ≤ v
        · exact hz
        · -- the lists hold bounds that lie below v alone
          have h1 := intLe_iff.1 h1
          exact absurd h1 (by
            have : ∀ {l : List (E × E)} {m : Int}, (∀ p ∈ l, P2 G σ (· ≤ ·) p) → m < 0 → lowOf a l 0 m < 0 := by
              intro l
              induction l with
              | nil => intro m _ hm; exact hm
              | cons p l ih =>
                intro m hl hm
                obtain ⟨u, w, q1, q2, q3⟩ := hl p List.mem_cons_self
                have hl' := fun p hp => hl p (List.mem_cons_of_mem _ hp)
                obtain ⟨x, y⟩ := p
                simp only at q1 q2
                unfold lowOf
                split
                · split
                  · rename_i hb
                    rw [iv_int] at q1; cases q1
                    rw [← E.beq_eq hb, hv] at q2; cases q2
                    split
                    · exact ih hl' (by omega)
                    · exact ih hl' hm
                  · exact ih hl' hm
                · exact ih hl' hm
            have := this (l := fx.le) (m := -1) hf.le (by omega)
            omega)
    · have h1 := intLe_iff.1 h
      by_cases hz : 0 ≤ v
      · exact hz
      · exact absurd h1 (by
          have : ∀ {l : List (E × E)} {m : Int}, (∀ p ∈ l, P2 G σ (· < ·) p) → m < 0 → lowOf a l 1 m < 0 := by
            intro l
            induction l with
            | nil => intro m _ hm; exact hm
            | cons p l ih =>
              intro m hl hm
              obtain ⟨u, w, q1, q2, q3⟩ := hl p List.mem_cons_self
              have hl' := fun p hp => hl p (List.mem_cons_of_mem _ hp)
              obtain ⟨x, y⟩ := p
              simp only at q1 q2
              unfold lowOf
              split
              · split
                · rename_i hb
                  rw [iv_int] at q1; cases q1
                  rw [← E.beq_eq hb, hv] at q2; cases q2
                  split
                  · exact ih hl' (by omega)
                  · exact ih hl' hm
                · exact ih hl' hm
              · exact ih hl' hm
          have := this (l := fx.lt) (m := -1) hf.lt (by omega)
          omega)

theorem someAfter_mem {a : E} {p : E → Bool} : ∀ {l : List (E × E)}, someAfter a p l = true → ∃ y, (a, y) ∈ l ∧ p y = true
  | [], h => by cases h
  | (x, y) :: l, h => by
    simp only [someAfter] at h
    split at h
    · rename_i h1
      split at h
      · rename_i h2; exact ⟨y, by rw [E.beq_eq h1]; exact List.mem_cons_self, h2⟩
      · obtain ⟨z, hz, hp⟩ := someAfter_mem h; exact ⟨z, List.mem_cons_of_mem _ hz, hp⟩
    · obtain ⟨z, hz, hp⟩ := someAfter_mem h; exact ⟨z, List.mem_cons_of_mem _ hz, hp⟩

theorem leStep_ok (hf : FxOk G σ fx) {n x : E} {vn vx : Int} (hn : iv G σ n = some vn) (hx : iv G σ x = some vx) (h : leStep fx n x = true) : vx ≤ vn := by
  unfold leStep at h
  split at h
  · rename_i hb; rw [E.beq_eq hb, hn] at hx; cases hx; exact Int.le_refl _
  · split at h
    · rename_i hb
      obtain ⟨u, w, h1, h2, h3⟩ := hf.le _ (pairIn_mem hb)
      simp only [hn, hx, Option.some.injEq] at h1 h2; omega
    · split at h
      · rename_i hb
        obtain ⟨u, w, h1, h2, h3⟩ := hf.eq _ (pairIn_mem hb)
        simp only [hn, hx, Option.some.injEq] at h1 h2; omega
      · obtain ⟨u, w, h1, h2, h3⟩ := hf.eq _ (pairIn_mem h)
        simp only [hn, hx, Option.some.injEq] at h1 h2; omega

theorem posBy_ok (hf : FxOk G σ fx) {n : E} {vn : Int} (hn : iv G σ n = some vn) : ∀ {l : List (E × E)}, (∀ p ∈ l, P2 G σ (· < ·) p) → posBy fx n l = true → 0 < vn
  | [], _, h => by cases h
  | (x, y) :: l, hl, h => by
    obtain ⟨u, w, h1, h2, h3⟩ := hl (x, y) List.mem_cons_self
    simp only at h1 h2
    simp only [posBy] at h
    split at h
    · rename_i hb
      rw [← E.beq_eq hb, hn] at h2; cases h2
      split at h
      · rename_i hz
        have := nonneg_ok hf h1 hz
        omega
      · exact posBy_ok hf hn (fun p hp => hl p (List.mem_cons_of_mem _ hp)) h
    · exact posBy_ok hf hn (fun p hp => hl p (List.mem_cons_of_mem _ hp)) h

theorem low_gt {r : Int → Int → Prop} {d c : Int} (hr : ∀ x y, r x y → x + d ≤ y) {a : E} {v : Int} (hv : iv G σ a = some v) : ∀ {l : List (E × E)} {m : Int}, (∀ p ∈ l, P2 G σ r p) → (c < m → c < v) → c < lowOf a l d m → c < v
  | [], m, _, hm, h => hm h
  | (x, y) :: l, m, hl, hm, h => by
    have hl' := fun p hp => hl p (List.mem_cons_of_mem _ hp)
    obtain ⟨u, w, h1, h2, h3⟩ := hl (x, y) List.mem_cons_self
    simp only at h1 h2
    unfold lowOf at h
    split at h
    · split at h
      · rename_i hb
        rw [iv_int] at h1; cases h1
        rw [← E.beq_eq hb, hv] at h2; cases h2
        split at h
        · exact low_gt hr hv hl' (fun q => by have := hr _ _ h3; omega) h
        · exact low_gt hr hv hl' hm h
      · exact low_gt hr hv hl' hm h
    · exact low_gt hr hv hl' hm h

theorem ltOk_ok (hf : FxOk G σ fx) {i n : E} {vi vn : Int} (hi : iv G σ i = some vi) (hn : iv G σ n = some vn) (hp : nonneg fx i = true) (h : ltOk fx i n = true) : vi < vn := by
  unfold ltOk at h
  split at h
  · rename_i hs
    obtain ⟨y, hy, hl⟩ := someAfter_mem hs
    obtain ⟨u, w, h1, h2, h3⟩ := hf.lt _ hy
    simp only [hi, Option.some.injEq] at h1 h2
    have := leStep_ok hf hn h2 hl
    omega
  · split at h
    · rename_i k c
      have h0 := nonneg_ok hf hi hp
      rw [iv_int] at hi; cases hi
      split at h
      · rename_i hq
        split at hq
        · rename_i m hm
          have := eqConst_ok hf.eq hm
          rw [hn] at this; cases this
          exact intLt_iff.1 hq
        · cases hq
      · split at h
        · rename_i hq
          exact low_gt (d := 0) (fun x y (h : x ≤ y) => by omega) hn hf.le (fun q => by omega) (intLt_iff.1 hq)
        · split at h
          · rename_i hq
            exact low_gt (d := 1) (fun x y (h : x < y) => by omega) hn hf.lt (fun q => by omega) (intLt_iff.1 hq)
          · split at h
            · rename_i hq
              have := intBeq_iff.1 hq
              have := posBy_ok hf hn hf.lt h
              omega
            · cases h
    · cases h
end
end
end Go.Sym
/- What is known, what is taken: sound. -/
namespace Go.Sym
open Go Go.Shd
noncomputable section
set_option linter.unusedSimpArgs false
section
variable {G : Globals} {σ : List AV} {fx : Fx}

theorem cmpInt_iff {c : Cmp} {x y : Int} : cmpInt c x y = true ↔ (match c with | .eq => x = y | .lt => x < y | .le => x ≤ y) := by
  cases c <;> simp [cmpInt, intBeq_iff, intLt_iff, intLe_iff]

theorem upFrom_gt {a : E} {v y : Int} (hv : iv G σ a = some v) {l : List (E × E)} (hl : ∀ p ∈ l, P2 G σ (· ≠ ·) p) : ∀ {f : Nat} {n : Int}, (y < n → v ≠ y) → y < upFrom a l f n → v ≠ y
  | 0, n, h, hy => h hy
  | f + 1, n, h, hy => by
    unfold upFrom at hy
    split at hy
    · rename_i hn
      refine upFrom_gt hv hl (fun hlt => ?_) hy
      have := neConst_ok hl hn
      rw [hv] at this
      have h2 : v ≠ n := by simpa using this
      by_cases e : y = n
      · rw [e]; exact h2
      · exact h (by omega)
    · exact h hy

theorem high_lt {r : Int → Int → Prop} {d c : Int} (hr : ∀ x y, r x y → x ≤ y - d) {a : E} {v : Int} (hv : iv G σ a = some v) : ∀ {l : List (E × E)} {m : Int}, (∀ p ∈ l, P2 G σ r p) → (m < c → v < c) → highOf a l d m < c → v < c
  | [], m, _, hm, h => hm h
  | (x, y) :: l, m, hl, hm, h => by
    have hl' := fun p hp => hl p (List.mem_cons_of_mem _ hp)
    obtain ⟨u, w, h1, h2, h3⟩ := hl (x, y) List.mem_cons_self
    simp only at h1 h2
    unfold highOf at h
    split at h
    · split at h
      · rename_i hb
        rw [iv_int] at h2; cases h2
        rw [← E.beq_eq hb, hv] at h1; cases h1
        split at h
        · exact high_lt hr hv hl' (fun q => by have := hr _ _ h3; omega) h
        · exact high_lt hr hv hl' hm h
      · exact high_lt hr hv hl' hm h
    · exact high_lt hr hv hl' hm h

theorem low_base {r : Int → Int → Prop} {d : Int} (hr : ∀ x y, r x y → x + d ≤ y) {a : E} {v : Int} (hv : iv G σ a = some v) : ∀ {l : List (E × E)} {m : Int}, (∀ p ∈ l, P2 G σ r p) → lowOf a l d m = m ∨ lowOf a l d m ≤ v
  | [], m, _ => .inl rfl
  | (x, y) :: l, m, hl => by
    have hl' := fun p hp => hl p (List.mem_cons_of_mem _ hp)
    obtain ⟨u, w, h1, h2, h3⟩ := hl (x, y) List.mem_cons_self
    simp only at h1 h2
    unfold lowOf
    split
    · split
      · rename_i hb
        rw [iv_int] at h1; cases h1
        rw [← E.beq_eq hb, hv] at h2; cases h2
        split
        · have := hr _ _ h3
          rcases low_base hr hv hl' with h | h
          · right; rw [h]; exact this
          · exact .inr h
        · exact low_base hr hv hl'
      · exact low_base hr hv hl'
    · exact low_base hr hv hl'

theorem high_base {r : Int → Int → Prop} {d : Int} (hr : ∀ x y, r x y → x ≤ y - d) {a : E} {v : Int} (hv : iv G σ a = some v) : ∀ {l : List (E × E)} {m : Int}, (∀ p ∈ l, P2 G σ r p) → highOf a l d m = m ∨ v ≤ highOf a l d m
  | [], m, _ => .inl rfl
  | (x, y) :: l, m, hl => by
    have hl' := fun p hp => hl p (List.mem_cons_of_mem _ hp)
    obtain ⟨u, w, h1, h2, h3⟩ := hl (x, y) List.mem_cons_self
    simp only at h1 h2
    unfold highOf
    split
    · split
      · rename_i hb
        rw [iv_int] at h2; cases h2
        rw [← E.beq_eq hb, hv] at h1; cases h1
        split
        · have := hr _ _ h3
          rcases high_base hr hv hl' with h | h
          · right; rw [h]; exact this
          · exact .inr h
        · exact high_base hr hv hl'
      · exact high_base hr hv hl'
    · exact high_base hr hv hl'

theorem loE_ok (hf : FxOk G σ fx) {a : E} {x : Int} (ha : iv G σ a = some x) (q1 : bigNeg < loE fx a) : loE fx a ≤ x := by
  unfold loE at q1 ⊢
  rcases low_base (d := 1) (fun x y (h : x < y) => by omega) ha hf.lt (m := lowOf a fx.le 0 bigNeg) with h1 | h1
  · rw [h1] at q1 ⊢
    rcases low_base (d := 0) (fun x y (h : x ≤ y) => by omega) ha hf.le (m := bigNeg) with h2 | h2
    · omega
    · exact h2
  · exact h1
theorem hiE_ok (hf : FxOk G σ fx) {a : E} {x : Int} (ha : iv G σ a = some x) (q2 : hiE fx a < bigPos) : x ≤ hiE fx a := by
  unfold hiE at q2 ⊢
  rcases high_base (d := 1) (fun x y (h : x < y) => by omega) ha hf.lt (m := highOf a fx.le 0 bigPos) with h1 | h1
  · rw [h1] at q2 ⊢
    rcases high_base (d := 0) (fun x y (h : x ≤ y) => by omega) ha hf.le (m := bigPos) with h2 | h2
    · omega
    · exact h2
  · exact h1
theorem bndR_ok (hf : FxOk G σ fx) {c : Cmp} {a : E} {x y : Int} {r : Bool} (ha : iv G σ a = some x) (h : bndR fx c a y = some r) : cmpInt c x y = r := by
  have fl : ∀ {b : Bool} {p : Prop}, (b = true ↔ p) → ¬ p → b = false := fun h q => by
    rename_i b p; cases b with
    | false => rfl
    | true => exact absurd (h.1 rfl) q
  unfold bndR at h
  cases c with
  | eq => cases h
  | lt =>
    simp only at h
    split at h
    · rename_i hq
      simp only [Bool.and_eq_true, intLe_iff, intLt_iff] at hq
      cases h
      have := loE_ok hf ha hq.1
      exact fl cmpInt_iff (by simp only; omega)
    · split at h
      · rename_i hq
        simp only [Bool.and_eq_true, intLe_iff, intLt_iff] at hq
        cases h
        have := hiE_ok hf ha hq.1
        exact cmpInt_iff.2 (by simp only; omega)
      · cases h
  | le =>
    simp only at h
    split at h
    · rename_i hq
      simp only [Bool.and_eq_true, intLe_iff, intLt_iff] at hq
      cases h
      have := loE_ok hf ha hq.1
      exact fl cmpInt_iff (by simp only; omega)
    · split at h
      · rename_i hq
        simp only [Bool.and_eq_true, intLe_iff, intLt_iff] at hq
        cases h
        have := hiE_ok hf ha hq.1
        exact cmpInt_iff.2 (by simp only; omega)
      · cases h
theorem bndL_ok (hf : FxOk G σ fx) {c : Cmp} {b : E} {x y : Int} {r : Bool} (hb : iv G σ b = some y) (h : bndL fx c x b = some r) : cmpInt c x y = r := by
  have fl : ∀ {b : Bool} {p : Prop}, (b = true ↔ p) → ¬ p → b = false := fun h q => by
    rename_i b p; cases b with
    | false => rfl
    | true => exact absurd (h.1 rfl) q
  unfold bndL at h
  cases c with
  | eq => cases h
  | lt =>
    simp only at h
    split at h
    · rename_i hq
      simp only [Bool.and_eq_true, intLe_iff, intLt_iff] at hq
      cases h
      have := loE_ok hf hb hq.1
      exact cmpInt_iff.2 (by simp only; omega)
    · split at h
      · rename_i hq
        simp only [Bool.and_eq_true, intLe_iff, intLt_iff] at hq
        cases h
        have := hiE_ok hf hb hq.1
        exact fl cmpInt_iff (by simp only; omega)
      · cases h
  | le =>
    simp only at h
    split at h
    · rename_i hq
      simp only [Bool.and_eq_true, intLe_iff, intLt_iff] at hq
      cases h
      have := loE_ok hf hb hq.1
      exact cmpInt_iff.2 (by simp only; omega)
    · split at h
      · rename_i hq
        simp only [Bool.and_eq_true, intLe_iff, intLt_iff] at hq
        cases h
        have := hiE_ok hf hb hq.1
        exact fl cmpInt_iff (by simp only; omega)
      · cases h

theorem knownCmp_ok (hf : FxOk G σ fx) {c : Cmp} {a b : E} {r s : Bool} (h : knownCmp fx c a b = some r) (he : evF G σ (.cmp c a b) = some s) : s = r := by
  unfold evF at he
  cases ha : iv G σ a with
  | none => rw [ha] at he; cases he
  | some x =>
    cases hb : iv G σ b with
    | none => rw [ha, hb] at he; cases he
    | some y =>
      rw [ha, hb] at he
      simp only [Option.some.injEq] at he
      subst he
      have pr : ∀ {p q : E} {r : Int → Int → Prop} {l : List (E × E)} {u w : Int}, (∀ p ∈ l, P2 G σ r p) → pairIn p q l = true → iv G σ p = some u → iv G σ q = some w → r u w := by
        intro p q r l u w hl hp hu hw
        obtain ⟨u', w', h1, h2, h3⟩ := hl _ (pairIn_mem hp)
        simp only [hu, hw, Option.some.injEq] at h1 h2
        rw [h1, h2]; exact h3
      have tr : ∀ {b : Bool} {p : Prop}, (b = true ↔ p) → p → b = true := fun h q => h.2 q
      have fl : ∀ {b : Bool} {p : Prop}, (b = true ↔ p) → ¬ p → b = false := fun h q => by
        rename_i b p; cases b with
        | false => rfl
        | true => exact absurd (h.1 rfl) q
      unfold knownCmp at h
      split at h
      · rename_i u w hu hw
        cases h
        have h1 := valOf_ok hf hu
        have h2 := valOf_ok hf hw
        rw [ha] at h1; rw [hb] at h2
        cases h1; cases h2; rfl
      · rename_i w hu hw
        have h2 := valOf_ok hf hw
        rw [hb] at h2; cases h2
        cases c with
        | eq =>
          simp only at h
          split at h
          · rename_i hn
            cases h
            have := neConst_ok hf.ne hn
            exact fl cmpInt_iff (by rw [ha] at this; simpa using this)
          · split at h
            · rename_i hq
              simp only [Bool.and_eq_true, intLe_iff, intLt_iff] at hq
              cases h
              refine fl cmpInt_iff ?_
              simp only
              refine upFrom_gt ha hf.ne (fun hlt => ?_) hq.2
              have := low_gt (d := 1) (fun x y (h : x < y) => by omega) ha hf.lt (fun hlt => low_gt (d := 0) (fun x y (h : x ≤ y) => by omega) ha hf.le (fun hlt => by omega) hlt) hlt
              omega
            · split at h
              · rename_i hq
                simp only [Bool.and_eq_true, intLe_iff, intLt_iff] at hq
                cases h
                refine fl cmpInt_iff ?_
                simp only
                have := high_lt (d := 1) (fun x y (h : x < y) => by omega) ha hf.lt (fun hlt => high_lt (d := 0) (fun x y (h : x ≤ y) => by omega) ha hf.le (fun hlt => by omega) hlt) hq.2
                omega
              · split at h
                · rename_i hq
                  simp only [Bool.and_eq_true, intLt_iff, intBeq_iff] at hq
                  obtain ⟨q1, q2, q3⟩ := hq
                  cases h
                  have hlow : lowOf a fx.lt 1 (lowOf a fx.le 0 bigNeg) ≤ x := by
                    rcases low_base (d := 1) (fun x y (h : x < y) => by omega) ha hf.lt (m := lowOf a fx.le 0 bigNeg) with h1 | h1
                    · rw [h1] at q1 ⊢
                      rcases low_base (d := 0) (fun x y (h : x ≤ y) => by omega) ha hf.le (m := bigNeg) with h2 | h2
                      · omega
                      · exact h2
                    · exact h1
                  have hhigh : x ≤ highOf a fx.lt 1 (highOf a fx.le 0 bigPos) := by
                    rcases high_base (d := 1) (fun x y (h : x < y) => by omega) ha hf.lt (m := highOf a fx.le 0 bigPos) with h1 | h1
                    · rw [h1] at q2 ⊢
                      rcases high_base (d := 0) (fun x y (h : x ≤ y) => by omega) ha hf.le (m := bigPos) with h2 | h2
                      · omega
                      · exact h2
                    · exact h1
                  have hup := upFrom_ok ha hf.ne (f := 40) hlow
                  have hx : x = upFrom a fx.ne 40 (lowOf a fx.lt 1 (lowOf a fx.le 0 bigNeg)) := by omega
                  rw [← hx]
                  rfl
                · cases h
        | lt =>
          simp only at h
          split at h
          · rename_i hp; cases h; exact tr cmpInt_iff (pr hf.lt hp ha hb)
          · split at h
            · rename_i hp; cases h; exact fl cmpInt_iff (by have := pr hf.le hp hb ha; simp only; omega)
            · exact bndR_ok hf ha h
        | le =>
          simp only at h
          split at h
          · rename_i hp; cases h; exact tr cmpInt_iff (pr hf.le hp ha hb)
          · split at h
            · rename_i hp; cases h; exact fl cmpInt_iff (by have := pr hf.lt hp hb ha; simp only; omega)
            · exact bndR_ok hf ha h
      · cases c with
        | eq =>
          simp only at h
          split at h
          · rename_i hp; cases h; exact tr cmpInt_iff (pr hf.eq hp ha hb)
          · split at h
            · rename_i hp; cases h; exact fl cmpInt_iff (pr hf.ne hp ha hb)
            · cases h
        | lt =>
          simp only at h
          split at h
          · rename_i hp; cases h; exact tr cmpInt_iff (pr hf.lt hp ha hb)
          · split at h
            · rename_i hp; cases h; exact fl cmpInt_iff (by have := pr hf.le hp hb ha; simp only; omega)
            · split at h
              · rename_i hva
                have h1 := valOf_ok hf hva
                rw [ha] at h1
                cases h1
                exact bndL_ok hf hb h
              · cases h
        | le =>
          simp only at h
          split at h
          · rename_i hp; cases h; exact tr cmpInt_iff (pr hf.le hp ha hb)
          · split at h
            · rename_i hp; cases h; exact fl cmpInt_iff (by have := pr hf.lt hp hb ha; simp only; omega)
            · split at h
              · rename_i hva
                have h1 := valOf_ok hf hva
                rw [ha] at h1
                cases h1
                exact bndL_ok hf hb h
              · cases h

theorem fIn_ok {f : F} {r : Bool} : ∀ {l : List (F × Bool)}, (∀ p ∈ l, evF G σ p.1 = some p.2) → fIn f l = some r → evF G σ f = some r
  | [], _, h => by cases h
  | (x, b) :: l, hl, h => by
    unfold fIn at h
    split at h
    · rename_i hb; cases h; rw [F.beq_eq hb]; exact hl _ List.mem_cons_self
    · exact fIn_ok (fun p hp => hl p (List.mem_cons_of_mem _ hp)) h
theorem known_ok (hf : FxOk G σ fx) : ∀ {f : F} {r s : Bool}, known fx f = some r → evF G σ f = some s → s = r
  | .tt, r, s, h, he => by cases h; cases he; rfl
  | .ff, r, s, h, he => by cases h; cases he; rfl
  | .cmp c a b, r, s, h, he => knownCmp_ok hf h he
  | .seq _ _, r, s, h, _ => by cases h
  | .atom e, r, s, h, he => by
    have : ∀ {l : List (E × Bool)}, (∀ p ∈ l, ev G σ p.1 = some (.lit (.bool p.2))) → boolIn e l = some r → ev G σ e = some (.lit (.bool r)) := by
      intro l
      induction l with
      | nil => intro _ h; cases h
      | cons p l ih =>
        intro hl h
        obtain ⟨x, b⟩ := p
        unfold boolIn at h
        split at h
        · rename_i hb; cases h; rw [E.beq_eq hb]; exact hl _ List.mem_cons_self
        · exact ih (fun p hp => hl p (List.mem_cons_of_mem _ hp)) h
    have := this hf.bl h
    unfold evF at he
    rw [this] at he
    cases he; rfl
  | .no f, r, s, h, he => by
    unfold known at h
    unfold evF at he
    cases hk : known fx f with
    | none => rw [hk] at h; cases h
    | some b =>
      rw [hk] at h; cases h
      obtain ⟨b', h1, h2⟩ := Option.map_eq_some_iff.1 he
      rw [← h2, known_ok hf hk h1]
  | .ite c a b, r, s, h, he => by
    unfold known at h
    unfold evF at he
    cases hc : evF G σ c with
    | none => rw [hc] at he; cases he
    | some u =>
      rw [hc] at he
      cases hk : known fx c with
      | some w =>
        rw [hk] at h
        have := known_ok hf hk hc
        subst this
        cases u with
        | true => exact known_ok hf h he
        | false => exact known_ok hf h he
      | none =>
        rw [hk] at h
        simp only at h
        split at h
        · rename_i w hw
          cases h
          have hxy : known fx a = some r ∧ known fx b = some r := by
            generalize known fx a = x at hw ⊢
            generalize known fx b = y at hw ⊢
            rcases x with _ | _ | _ <;> rcases y with _ | _ | _ <;> simp [both] at hw <;> simp [hw]
          cases u with
          | true => exact known_ok hf hxy.1 he
          | false => exact known_ok hf hxy.2 he
        · have := fIn_ok hf.cx h
          have h2 : evF G σ (.ite c a b) = some s := by
            unfold evF; rw [hc]; exact he
          rw [this] at h2
          cases h2
          rfl

theorem evF_ite {c a d : F} {b : Bool} (h : evF G σ (.ite c a d) = some b) : ∃ u, evF G σ c = some u ∧ (u = true → evF G σ a = some b) ∧ (u = false → evF G σ d = some b) := by
  unfold evF at h
  cases hc : evF G σ c with
  | none => rw [hc] at h; cases h
  | some u =>
    rw [hc] at h
    cases u with
    | true => exact ⟨true, rfl, fun _ => h, fun e => by cases e⟩
    | false => exact ⟨false, rfl, fun e => (by cases e), fun _ => h⟩

theorem assume_ok : ∀ {f : F} {b : Bool} {fx : Fx}, FxOk G σ fx → evF G σ f = some b → FxOk G σ (assume fx f b)
  | .tt, b, fx, hf, he => hf
  | .ff, b, fx, hf, he => hf
  | .cmp c x y, b, fx, hf, he => by
    unfold evF at he
    cases ha : iv G σ x with
    | none => rw [ha] at he; cases he
    | some u =>
      cases hb : iv G σ y with
      | none => rw [ha, hb] at he; cases he
      | some w =>
        rw [ha, hb] at he
        have he := Option.some.inj he
        obtain ⟨lt, le, eq, ne, bl, cx, al⟩ := fx
        have hi := @cmpInt_iff c u w
        rw [he] at hi
        have mk : ∀ {r : Int → Int → Prop} {l : List (E × E)}, (∀ p ∈ l, P2 G σ r p) → r u w → ∀ p ∈ (x, y) :: l, P2 G σ r p := by
          intro r l hl hr p hp
          rcases List.mem_cons.1 hp with rfl | hp
          · exact ⟨u, w, ha, hb, hr⟩
          · exact hl p hp
        have mk' : ∀ {r : Int → Int → Prop} {l : List (E × E)}, (∀ p ∈ l, P2 G σ r p) → r w u → ∀ p ∈ (y, x) :: l, P2 G σ r p := by
          intro r l hl hr p hp
          rcases List.mem_cons.1 hp with rfl | hp
          · exact ⟨w, u, hb, ha, hr⟩
          · exact hl p hp
        cases c <;> cases b <;> simp only [true_iff, Bool.false_eq_true, false_iff] at hi <;> simp only [assume]
        · exact ⟨hf.lt, hf.le, hf.eq, mk hf.ne hi, hf.bl, hf.cx, hf.al⟩
        · exact ⟨hf.lt, hf.le, mk hf.eq hi, hf.ne, hf.bl, hf.cx, hf.al⟩
        · exact ⟨hf.lt, mk' hf.le (by omega), hf.eq, hf.ne, hf.bl, hf.cx, hf.al⟩
        · exact ⟨mk hf.lt hi, hf.le, hf.eq, hf.ne, hf.bl, hf.cx, hf.al⟩
        · exact ⟨mk' hf.lt (by omega), hf.le, hf.eq, hf.ne, hf.bl, hf.cx, hf.al⟩
        · exact ⟨hf.lt, mk hf.le hi, hf.eq, hf.ne, hf.bl, hf.cx, hf.al⟩
  | .seq _ _, b, fx, hf, he => by simpa only [assume] using hf
  | .atom e, b, fx, hf, he => by
    obtain ⟨lt, le, eq, ne, bl, cx, al⟩ := fx
    simp only [assume]
    refine ⟨hf.lt, hf.le, hf.eq, hf.ne, fun p hp => ?_, hf.cx, hf.al⟩
    rcases List.mem_cons.1 hp with rfl | hp
    · unfold evF at he
      cases hs : ev G σ e with
      | none => rw [hs] at he; cases he
      | some u =>
        rw [hs] at he
        split at he
        · rename_i b' hb
          cases hb; cases he; rfl
        · cases he
    · exact hf.bl p hp
  | .no f, b, fx, hf, he => by
    simp only [assume]
    unfold evF at he
    obtain ⟨b', h1, h2⟩ := Option.map_eq_some_iff.1 he
    exact assume_ok hf (by rw [h1, ← h2]; simp)
  | .ite c a d, b, fx, hf, he => by
    obtain ⟨u, h1, h2, h3⟩ := evF_ite he
    have putOff : FxOk G σ (match fx with | ⟨lt, le, eq, ne, bl, cx, al⟩ => ⟨lt, le, eq, ne, bl, (.ite c a d, b) :: cx, al⟩) := by
      obtain ⟨lt, le, eq, ne, bl, cx, al⟩ := fx
      refine ⟨hf.lt, hf.le, hf.eq, hf.ne, hf.bl, fun p hp => ?_, hf.al⟩
      rcases List.mem_cons.1 hp with rfl | hp
      · exact he
      · exact hf.cx p hp
    unfold assume
    split
    · -- and, true
      cases u with
      | true => exact assume_ok (assume_ok hf h1) (h2 rfl)
      | false => have := h3 rfl; cases this
    · -- or, false
      cases u with
      | false => exact assume_ok (assume_ok hf h1) (h3 rfl)
      | true => have := h2 rfl; cases this
    · split
      · rename_i hk
        have := known_ok hf hk h1
        subst this
        exact assume_ok hf (h2 rfl)
      · rename_i hk
        have := known_ok hf hk h1
        subst this
        exact assume_ok hf (h3 rfl)
      · split
        · rename_i x hx hn
          split
          · cases u with
            | true => have := known_ok hf hx (h2 rfl); cases this
            | false => exact assume_ok (assume_ok hf h1) (h3 rfl)
          · cases u with
            | true => have := known_ok hf hx (h2 rfl); cases this
            | false => exact assume_ok (assume_ok hf h1) (h3 rfl)
          · exact putOff
        · rename_i y hx hn
          split
          · cases u with
            | false => have := known_ok hf hn (h3 rfl); cases this
            | true => exact assume_ok (assume_ok hf h1) (h2 rfl)
          · cases u with
            | false => have := known_ok hf hn (h3 rfl); cases this
            | true => exact assume_ok (assume_ok hf h1) (h2 rfl)
          · exact putOff
        · exact putOff

theorem refreshL_ok : ∀ {l : List (F × Bool)} {fx : Fx}, FxOk G σ fx → (∀ p ∈ l, evF G σ p.1 = some p.2) → FxOk G σ (refreshL l fx)
  | [], fx, hf, _ => hf
  | (f, b) :: l, fx, hf, hl => by
    simp only [refreshL]
    exact refreshL_ok (assume_ok hf (hl (f, b) List.mem_cons_self)) fun p hp => hl p (List.mem_cons_of_mem _ hp)
theorem knownX_ok (hf : FxOk G σ fx) {f : F} {r s : Bool} (h : knownX fx f = some r) (he : evF G σ f = some s) : s = r := by
  unfold knownX at h
  split at h
  · rename_i b hb; cases h; exact known_ok hf hb he
  · split at h
    · rename_i hb
      cases h
      cases s with
      | false => rfl
      | true => exact known_ok (assume_ok hf he) hb he
    · split at h
      · rename_i hb
        cases h
        cases s with
        | true => rfl
        | false => exact known_ok (assume_ok hf he) hb he
      · cases h

theorem refresh_ok (hf : FxOk G σ fx) : FxOk G σ (refresh fx) := by
  obtain ⟨lt, le, eq, ne, bl, cx, al⟩ := fx
  exact refreshL_ok ⟨hf.lt, hf.le, hf.eq, hf.ne, hf.bl, (fun p hp => by cases hp), hf.al⟩ hf.cx
end
end
end Go.Sym
/- Runs with unknowns: operations, regions, code, calls. -/
namespace Go.Sym
open Go Go.Shd
noncomputable section

abbrev KTab := T (List CK × Nat)

structure Sy where
  tm : T SV
  hp : T SB
  nb : Nat
  nv : Nat
  fx : Fx

/-- What is known of a loop ahead of the run: the counter, its bound, what the rounds turn, what holds of all elements met so far. -/
inductive Bd where
  | tmp (t : Tmp)
  | cell (t : Tmp) (off : Nat)
structure LoopHint where
  cnt : Tmp
  bnd : Bd
  keep : List Tmp
  hav : List Tmp
  blk : List Tmp
  all : List (Bd × Bd)

def mkCK (c : CK) (e : E) : SV :=
  match c with
  | .int k => .int k e
  | .bool => .bool (.atom e)
  | .str => .str e
  | .sl t => .sl t e

def svOf : AV → SV
  | .int k n => .int k (.int k n)
  | .lit (.bool true) => .bool .tt
  | .lit (.bool false) => .bool .ff
  | a => .lit a

/-- A guarded value, where its guard is known. -/
def ung (fx : Fx) : SV → SV
  | .gd f s => match known fx f with
    | some true => ung fx s
    | some false => .lit aundef
    | none => .gd f s
  | v => v

def sEv (fx : Fx) (tm : T SV) (x : Operand) (K : SV → Bool) : Bool :=
  match x with
  | .tmp t => match tm.get (key t) with
    | some v => K (ung fx v)
    | none => false
  | .const v => match ofVal v with
    | some a => K (svOf a)
    | none => false
  | .func f => K (.lit (.fn f [] []))
  | .global _ => false

def sEvs (fx : Fx) (tm : T SV) (l : List Operand) : (List SV → Bool) → Bool :=
  List.rec (motive := fun _ => (List SV → Bool) → Bool) (fun K => K []) (fun x _ ih K => sEv fx tm x fun a => ih fun r => K (a :: r)) l

/-- One cell's value? -/
def oneS : SV → Bool
  | .lit a => oneCell a
  | .int _ _ | .bool _ | .str _ | .sl _ _ | .sub _ _ _ | .ptr _ _ => true
  | _ => false
def allOneS : List SV → Bool
  | [] => true
  | v :: l => match oneS v with
    | true => allOneS l
    | false => false

/-- A value's cells, each of one cell. -/
def cellsS (v : SV) (K : List SV → Bool) : Bool :=
  match v with
  | .agg l => match allOneS l with
    | true => K l
    | false => false
  | v => match oneS v with
    | true => K [v]
    | false => false

section
variable (P : Program) (KT : KTab)

/-- The cells of an element of a slice that came in. -/
def rdL (e i : E) (sz : Nat) : List CK → Nat → List SV
  | [], _ => []
  | c :: l, j => mkCK c (.rd e i sz j) :: rdL e i sz l (Nat.succ j)

def sLoad (hp : T SB) (t : TypeId) (a : SV) (K : SV → Bool) : Bool :=
  match a with
  | .ptr b off => match hp.get (key b) with
    | some (.cells _ l) => match aggOf P t with
      | some true => match sizeOf? P t with
        | some n => cutK off n l fun l => K (.agg l)
        | none => false
      | some false => nthK off l K
      | none => false
    | _ => false
  | .mp te e i off => match KT.get (key te) with
    | some (ks, _) => match aggOf P t with
      | some true => match sizeOf? P t with
        | some (n + 1) => cutK off (n + 1) (rdL e i ks.length ks 0) fun l => K (.agg l)
        | _ => false
      | some false => nthK off (rdL e i ks.length ks 0) K
      | none => false
    | none => false
  | .cp te e i b => match hp.get (key b), KT.get (key te), aggOf P t with
    | some (.copy e'), some ([c], _), some false => match E.beq e e' with
      | true => K (mkCK c (.rd e i 1 0))
      | false => false
    | _, _, _ => false
  | _ => false

def cmpF (op : BinOp) (a b : E) : Option F :=
  match op with
  | .eql => some (.cmp .eq a b)
  | .neq => some (.no (.cmp .eq a b))
  | .lss => some (.cmp .lt a b)
  | .leq => some (.cmp .le a b)
  | .gtr => some (.cmp .lt b a)
  | .geq => some (.cmp .le b a)
  | _ => none

def arith (op : BinOp) (b : E) : Bool :=
  match op with
  | .add | .sub | .mul => true
  | .quo | .rem => match b with
    | .int _ n => !(intBeq n 0)
    | _ => false
  | _ => false

def sBin (op : BinOp) (t : TypeId) (x y : SV) (K : SV → Bool) : Bool :=
  match x, y with
  | .int k a, .int k' b => match decide (k = k') with
    | true => match cmpF op a b with
      | some f => K (.bool f)
      | none => match arith op b with
        | true => K (.int k (.bin op t a b))
        | false => false
    | false => false
  | .str a, .str b => match op with
    | .eql => K (.bool (.seq a b))
    | .neq => K (.bool (.no (.seq a b)))
    | _ => false
  | _, _ => false

def boolS (v : SV) (K : F → Bool) : Bool :=
  match v with
  | .bool f => K f
  | _ => false

def sFill (fx : Fx) (place : Nat → Option (Nat × Nat)) (tm : T SV) : List (Nat × Operand) → List SV → (List SV → Bool) → Bool
  | [], cs, K => K cs
  | (i, x) :: l, cs, K => sEv fx tm x fun v => cellsS v fun vs => match place i with
    | some (off, size) => match Nat.beq vs.length size with
      | true => putK off vs cs fun cs => sFill fx place tm l cs K
      | false => false
    | none => false

def idxOk0 (fx : Fx) (i n : E) : Bool := match nonneg fx i with
  | true => ltOk fx i n
  | false => false

/-- An element of a slice of which all elements up to a number lie in a range. -/
def allIdx (fx : Fx) (s n : E) : List (E × E × E) → Bool
  | [] => false
  | (s', c, h) :: l => match E.beq s s' with
    | true => match E.beq n h with
      | true => match leStep fx c (.len s) with
        | true => true
        | false => allIdx fx s n l
      | false => allIdx fx s n l
    | false => allIdx fx s n l
def idxOk (fx : Fx) (i n : E) : Bool := match idxOk0 fx i n with
  | true => true
  | false => match i with
    | .rd s _ 1 0 => allIdx fx s n fx.al
    | _ => false

def isPure (o : Oper) : Bool :=
  match kindOf o.op with
  | .quiet | .read => true
  | _ => false

abbrev SK := SV → T SB → Nat → Bool

/-- An operation that calls nothing. -/
def sOp (fx : Fx) (o : Oper) (tm : T SV) (hp : T SB) (nb : Nat) (K : SK) : Bool :=
  match o.op with
  | .move x | .assign x => sEv fx tm x fun v => K v hp nb
  | .pick c a b => sEv fx tm c fun c => boolS c fun f => match known fx f with
    | some true => sEv fx tm a fun v => K v hp nb
    | some false => sEv fx tm b fun v => K v hp nb
    | none => sEv (assume fx f true) tm a fun a => boolS a fun fa => sEv (assume fx f false) tm b fun b => boolS b fun fb => K (.bool (.ite f fa fb)) hp nb
  | .alloc e => match zeroOf P e with
    | some z => T.setK (some (.cells e (z.map svOf))) (key nb) hp fun hp => natK (Nat.succ nb) fun m => K (.ptr nb 0) hp m
    | none => false
  | .box e x => sEv fx tm x fun v => cellsS v fun l => T.setK (some (.cells e l)) (key nb) hp fun hp => natK (Nat.succ nb) fun m => K (.ptr nb 0) hp m
  | .build t parts => match zeroOf P t with
    | some z => match und P t with
      | some (.struct fs) => match placesL P fs.toList with
        | some ps => sFill fx (fun i => ps[i]?) tm parts.toList (z.map svOf) fun cs => K (.agg cs) hp nb
        | none => false
      | _ => false
    | none => false
  | .load t a => sEv fx tm a fun a => sLoad P KT hp t a fun v => K v hp nb
  | .store t a x => sEv fx tm a fun a => sEv fx tm x fun x => match a with
    | .ptr b off => match sizeOf? P t with
      | some (n + 1) => cellsS x fun vs => match Nat.beq vs.length (n + 1) with
        | true => match hp.get (key b) with
          | some (.cells e l) => putK off vs l fun l => T.setK (some (.cells e l)) (key b) hp fun hp => K (.lit aundef) hp nb
          | _ => false
        | false => false
      | _ => false
    | _ => false
  | .binOp op t x y _ => sEv fx tm x fun a => sEv fx tm y fun b => sBin op t a b fun v => K v hp nb
  | .unOp .not _ x => sEv fx tm x fun v => boolS v fun f => K (.bool (.no f)) hp nb
  | .convert src dst x => sEv fx tm x fun v => match und P src, und P dst, v with
    | some _, some (.int k), .int _ e => K (.int k (.conv k e)) hp nb
    | _, _, _ => false
  | .slice t x none (some hi) none => sEv fx tm x fun v => sEv fx tm hi fun h => match und P t, v, h with
    | some (.slice e), .sl te s, .int .i64 h => match sizeOf? P e with
      | some _ => match nonneg fx h with
        | true => match leOk fx h (.len s) with
          | true => K (.sub te s h) hp nb
          | false => false
        | false => false
      | none => false
    | _, _, _ => false
  | .fieldAddr s x f => sEv fx tm x fun v => match fieldOf P s f with
    | some fd => match sizeOf? P fd.type with
      | some (_ + 1) => match v with
        | .ptr b o => natK (Nat.add o fd.offset) fun o => K (.ptr b o) hp nb
        | .mp t e i o => natK (Nat.add o fd.offset) fun o => K (.mp t e i o) hp nb
        | _ => false
      | _ => false
    | none => false
  | .field t x f => sEv fx tm x fun v => match fieldOf P t f, v with
    | some fd, .agg cs => match aggOf P fd.type with
      | some true => match sizeOf? P fd.type with
        | some n => cutK fd.offset n cs fun l => K (.agg l) hp nb
        | none => false
      | some false => nthK fd.offset cs fun v => K v hp nb
      | none => false
    | _, _ => false
  | .indexAddr t x ix => sEv fx tm x fun v => sEv fx tm ix fun i => match und P t, i with
    | some (.slice el), .int _ i => match v with
      | .sl te e => match idxOk fx i (.len e), KT.get (key te), sizeOf? P el with
        | true, some (ks, _), some n => match Nat.beq ks.length n with
          | true => K (.mp te e i 0) hp nb
          | false => false
        | _, _, _ => false
      | .sub te e h => match idxOk fx i h, KT.get (key te), sizeOf? P el with
        | true, some (ks, _), some n => match Nat.beq ks.length n with
          | true => K (.mp te e i 0) hp nb
          | false => false
        | _, _, _ => false
      | .cpy te b e => match idxOk fx i (.len e), sizeOf? P el with
        | true, some 1 => K (.cp te e i b) hp nb
        | _, _ => false
      | _ => false
    | _, _ => false
  | .index t x ix => sEv fx tm x fun v => sEv fx tm ix fun i => match und P t, v, i with
    | some .string, .str s, .int _ i => match idxOk fx i (.len s) with
      | true => K (.int .u8 (.chr s i)) hp nb
      | false => false
    | _, _, _ => false
  | .extract x i => sEv fx tm x fun v => match v with
    | .tup l => nthK i l fun v => K v hp nb
    | _ => false
  | .buildSlice t 0 ⟨[]⟩ => match und P t with
    | some (.slice e) => match sizeOf? P e, zeroOf P e with
      | some n, some z => match Nat.beq z.length n with
        | true => T.setK (some (.cells e [])) (key nb) hp fun hp => natK (Nat.succ nb) fun m => K (.em nb) hp m
        | false => false
      | _, _ => false
    | _ => false
  | .call c => match c.callee with
    | .builtin .len => match c.argTypes[0]?, c.args.toList with
      | some t, [x] => sEv fx tm x fun v => match und P t, v with
        | some .string, .str e => K (.int .i64 (.len e)) hp nb
        | some (.slice _), .sl _ e => K (.int .i64 (.len e)) hp nb
        | some (.slice _), .sub _ _ h => K (.int .i64 h) hp nb
        | some (.slice _), .cpy _ _ e => K (.int .i64 (.len e)) hp nb
        | _, _ => false
      | _, _ => false
    | .builtin .append => match c.argTypes.toList, c.args.toList with
      | [t, u], [s, x] => sEv fx tm s fun s => sEv fx tm x fun x => match und P u, und P t with
        | some (.slice _), some (.slice el) => match s, x with
          | .em b, .sl te e => match sizeOf? P el, bytes? P el, zeroOf P el, KT.get (key te) with
            | some 1, some (by' + 1), some z, some ([_], lim) => match Nat.beq z.length 1 with
              | true => match Nat.ble (Nat.mul lim (by' + 1)) 140737488355328 with
                | true => match hp.get (key b) with
                  | some (.cells _ []) => T.setK none (key b) hp fun hp => T.setK (some (.copy e)) (key nb) hp fun hp => natK (Nat.succ nb) fun m => K (.cpy te nb e) hp m
                  | _ => false
                | false => false
              | false => false
            | _, _, _, _ => false
          | _, _ => false
        | _, _ => false
      | _, _ => false
    | _ => false
  | _ => false
end
end
end Go.Sym
/- What the values and blocks of a run with unknowns stand for. -/
namespace Go.Sym
open Go Go.Shd
noncomputable section

section
variable (G : Globals) (KT : KTab)

/-- A slice that came in, its cells of their kinds n levels deep. -/
def Dp : Nat → TypeId → AV → Prop
  | 0, _, _ => True
  | n + 1, t, a => (a = .lit (.slice none 0 0) ∨ a = .eslc) ∨ ∃ g o l c ks lim, a = .lit (.slice (some ⟨g, o, none⟩) l c) ∧ l ≤ c ∧ KT.get (key t) = some (ks, lim) ∧ l ≤ lim ∧
      ∀ j, j < l → ∀ i ck, ks[i]? = some ck → ∃ x, cellAt G a (j * ks.length + i) = some x ∧ (match ck with
        | .int k => ∃ z, x = .int k z
        | .bool => ∃ b, x = .lit (.bool b)
        | .str => ∃ l, x = .str l
        | .sl t' => Dp n t' x)
def Sl (t : TypeId) (a : AV) : Prop := ∀ n, Dp G KT n t a

theorem Sl.form {t : TypeId} {a : AV} (h : Sl G KT t a) : (a = .lit (.slice none 0 0) ∨ a = .eslc) ∨ ∃ g o l c ks lim, a = .lit (.slice (some ⟨g, o, none⟩) l c) ∧ l ≤ c ∧ KT.get (key t) = some (ks, lim) ∧ l ≤ lim := by
  rcases h 1 with h | ⟨g, o, l, c, ks, lim, h1, h2, h3, h4, _⟩
  · exact .inl h
  · exact .inr ⟨g, o, l, c, ks, lim, h1, h2, h3, h4⟩
theorem Sl.len {t : TypeId} {a : AV} (h : Sl G KT t a) : ∃ n, lenAt a = some n := by
  rcases h.form with (rfl | rfl) | ⟨g, o, l, c, ks, lim, rfl, _⟩
  · exact ⟨0, rfl⟩
  · exact ⟨0, rfl⟩
  · exact ⟨l, rfl⟩

/-- A first part of a slice. -/
def cutSl : AV → Nat → AV
  | .lit (.slice a _ c), m => .lit (.slice a m c)
  | x, _ => x

variable (σ : List AV) (β : List Nat)
mutual
def RS : SV → AV → Prop
  | .lit a, x => x = a
  | .int k e, x => ∃ n, ev G σ e = some (.int k n) ∧ x = .int k n
  | .bool f, x => ∃ b, evF G σ f = some b ∧ x = .lit (.bool b)
  | .str e, x => ∃ l, ev G σ e = some (.str l) ∧ x = .str l
  | .sl t e, x => ev G σ e = some x ∧ Sl G KT t x
  | .sub t e h, x => ∃ y n m, ev G σ e = some y ∧ Sl G KT t y ∧ lenAt y = some n ∧ ev G σ h = some (.int .i64 (Int.ofNat m)) ∧ m ≤ n ∧ x = cutSl y m
  | .em b, x => ∃ id, β[b]? = some id ∧ x = .slc id 0 0 0 none
  | .cpy t b e, x => ∃ id y n lb ex, β[b]? = some id ∧ ev G σ e = some y ∧ Sl G KT t y ∧ lenAt y = some n ∧ x = .slc id 0 n lb ex
  | .ptr b off, x => ∃ id, β[b]? = some id ∧ x = .ptr id off
  | .mp t e i off, x => ∃ g o l c k j ks lim, ev G σ e = some (.lit (.slice (some ⟨g, o, none⟩) l c)) ∧ Sl G KT t (.lit (.slice (some ⟨g, o, none⟩) l c)) ∧ ev G σ i = some (.int k (Int.ofNat j)) ∧ j < l ∧
      KT.get (key t) = some (ks, lim) ∧ x = .gptr g (o + j * ks.length + off)
  | .cp t e i b, x => ∃ id y n k j, β[b]? = some id ∧ ev G σ e = some y ∧ Sl G KT t y ∧ lenAt y = some n ∧ ev G σ i = some (.int k (Int.ofNat j)) ∧ j < n ∧ x = .ptr id j
  | .agg l, x => ∃ xs, x = .agg xs ∧ RSs l xs
  | .tup l, x => ∃ xs, x = .tup xs ∧ RSs l xs
  | .gd f s, x => ∃ b, evF G σ f = some b ∧ (b = true → RS s x) ∧ (b = false → x = aundef)
def RSs : List SV → List AV → Prop
  | [], m => m = []
  | a :: l, m => ∃ x m', m = x :: m' ∧ RS a x ∧ RSs l m'
end

def ExtN (β β' : List Nat) : Prop := ∃ τ, β' = β ++ τ
theorem ExtN.refl (β : List Nat) : ExtN β β := ⟨[], (List.append_nil _).symm⟩
theorem ExtN.trans {a b c : List Nat} (h : ExtN a b) (k : ExtN b c) : ExtN a c := by
  obtain ⟨x, rfl⟩ := h; obtain ⟨y, rfl⟩ := k; exact ⟨x ++ y, List.append_assoc _ _ _⟩
theorem ExtN.get {σ σ' : List Nat} (h : ExtN σ σ') {n a : Nat} (hn : σ[n]? = some a) : σ'[n]? = some a := by
  obtain ⟨τ, rfl⟩ := h
  rw [List.getElem?_append_left (List.getElem?_eq_some_iff.1 hn).1]; exact hn
end

section
variable {G : Globals} {KT : KTab} {σ σ' : List AV} {β β' : List Nat}
mutual
theorem RS.ext (hs : Ext σ σ') (hb : ExtN β β') : ∀ (s : SV) (x : AV), RS G KT σ β s x → RS G KT σ' β' s x
  | .lit a, x, h => h
  | .int k e, x, h => by obtain ⟨n, h1, h2⟩ := h; exact ⟨n, ev_ext hs h1, h2⟩
  | .bool f, x, h => by obtain ⟨n, h1, h2⟩ := h; exact ⟨n, evF_ext hs h1, h2⟩
  | .str e, x, h => by obtain ⟨n, h1, h2⟩ := h; exact ⟨n, ev_ext hs h1, h2⟩
  | .sl t e, x, h => ⟨ev_ext hs h.1, h.2⟩
  | .sub t e q, x, h => by obtain ⟨y, n, m, h1, h2, h3, h4, h5⟩ := h; exact ⟨y, n, m, ev_ext hs h1, h2, h3, ev_ext hs h4, h5⟩
  | .em b, x, h => by obtain ⟨id, h1, h2⟩ := h; exact ⟨id, hb.get h1, h2⟩
  | .cpy t b e, x, h => by obtain ⟨id, y, n, lb, ex, h1, h2, h3⟩ := h; exact ⟨id, y, n, lb, ex, hb.get h1, ev_ext hs h2, h3⟩
  | .ptr b off, x, h => by obtain ⟨id, h1, h2⟩ := h; exact ⟨id, hb.get h1, h2⟩
  | .mp t e i off, x, h => by obtain ⟨g, o, l, c, k, j, ks, lim, h1, h2, h3, h4⟩ := h; exact ⟨g, o, l, c, k, j, ks, lim, ev_ext hs h1, h2, ev_ext hs h3, h4⟩
  | .cp t e i b, x, h => by obtain ⟨id, y, n, k, j, h1, h2, h3, h4, h5, h6⟩ := h; exact ⟨id, y, n, k, j, hb.get h1, ev_ext hs h2, h3, h4, ev_ext hs h5, h6⟩
  | .agg l, x, h => by obtain ⟨xs, h1, h2⟩ := h; exact ⟨xs, h1, RSs.ext hs hb l xs h2⟩
  | .tup l, x, h => by obtain ⟨xs, h1, h2⟩ := h; exact ⟨xs, h1, RSs.ext hs hb l xs h2⟩
  | .gd f s, x, h => by obtain ⟨b, h1, h2, h3⟩ := h; exact ⟨b, evF_ext hs h1, fun e => RS.ext hs hb s x (h2 e), h3⟩
theorem RSs.ext (hs : Ext σ σ') (hb : ExtN β β') : ∀ (s : List SV) (x : List AV), RSs G KT σ β s x → RSs G KT σ' β' s x
  | [], x, h => h
  | a :: l, x, h => by obtain ⟨y, m, h1, h2, h3⟩ := h; exact ⟨y, m, h1, RS.ext hs hb a y h2, RSs.ext hs hb l m h3⟩
end

theorem RSs.len : ∀ {l : List SV} {xs : List AV}, RSs G KT σ β l xs → xs.length = l.length
  | [], xs, h => by simp only [RSs] at h; rw [h]; rfl
  | a :: l, xs, h => by obtain ⟨y, m, rfl, _, h3⟩ := h; simp [RSs.len h3]
theorem RSs.get {l : List SV} {xs : List AV} (h : RSs G KT σ β l xs) {i : Nat} {s : SV} (hi : l[i]? = some s) : ∃ x, xs[i]? = some x ∧ RS G KT σ β s x := by
  induction l generalizing xs i with
  | nil => cases hi
  | cons a l ih =>
    obtain ⟨y, m, rfl, h2, h3⟩ := h
    cases i with
    | zero => cases hi; exact ⟨y, rfl, h2⟩
    | succ i => simpa using ih h3 (by simpa using hi)
theorem RSs.drop {l : List SV} {xs : List AV} (h : RSs G KT σ β l xs) : ∀ n, RSs G KT σ β (l.drop n) (xs.drop n) := by
  induction l generalizing xs with
  | nil => intro n; simp only [RSs] at h; subst h; simp [RSs]
  | cons a l ih =>
    obtain ⟨y, m, rfl, h2, h3⟩ := h
    intro n
    cases n with
    | zero => exact ⟨y, m, rfl, h2, h3⟩
    | succ n => simpa using ih h3 n
theorem RSs.take {l : List SV} {xs : List AV} (h : RSs G KT σ β l xs) : ∀ n, RSs G KT σ β (l.take n) (xs.take n) := by
  induction l generalizing xs with
  | nil => intro n; simp only [RSs] at h; subst h; simp [RSs]
  | cons a l ih =>
    obtain ⟨y, m, rfl, h2, h3⟩ := h
    intro n
    cases n with
    | zero => simp [RSs]
    | succ n => simp only [List.take_succ_cons]; exact ⟨y, _, rfl, h2, ih h3 n⟩
theorem RSs.append {l l' : List SV} {xs xs' : List AV} (h : RSs G KT σ β l xs) (h' : RSs G KT σ β l' xs') : RSs G KT σ β (l ++ l') (xs ++ xs') := by
  induction l generalizing xs with
  | nil => simp only [RSs] at h; subst h; exact h'
  | cons a l ih =>
    obtain ⟨y, m, rfl, h2, h3⟩ := h
    exact ⟨y, _, rfl, h2, ih h3⟩

/-! ### Cells -/
theorem cut0K_eq {α : Type} : ∀ (n : Nat) (l : List α) (K : List α → Bool), n ≤ l.length → cut0K n l K = K (l.take n)
  | 0, l, K, _ => rfl
  | n + 1, [], K, h => by simp at h
  | n + 1, x :: l, K, h => by
    show cut0K n l (fun r => K (x :: r)) = _
    rw [cut0K_eq n l _ (by simpa using h)]; rfl
theorem cutK_eq {α : Type} : ∀ (m n : Nat) (l : List α) (K : List α → Bool), m + n ≤ l.length → cutK m n l K = K ((l.drop m).take n)
  | 0, n, l, K, h => by
    show cut0K n l K = _
    rw [cut0K_eq n l K (by omega)]; rfl
  | m + 1, n, [], K, h => by simp at h
  | m + 1, n, x :: l, K, h => by
    show cutK m n l K = _
    rw [cutK_eq m n l K (by simp at h; omega)]; rfl
theorem cut0K_true' {α : Type} : ∀ (n : Nat) (l : List α) (K : List α → Bool), cut0K n l K = true → n ≤ l.length ∧ K (l.take n) = true
  | 0, l, K, h => ⟨Nat.zero_le _, h⟩
  | n + 1, [], K, h => by cases h
  | n + 1, x :: l, K, h => by
    have := cut0K_true' n l (fun r => K (x :: r)) h
    exact ⟨by simp; exact this.1, this.2⟩
theorem cutK_true' {α : Type} : ∀ (m n : Nat) (l : List α) (K : List α → Bool), cutK m n l K = true → m + n ≤ l.length ∧ K ((l.drop m).take n) = true
  | 0, n, l, K, h => by
    have := cut0K_true' n l K h
    exact ⟨by omega, this.2⟩
  | m + 1, n, [], K, h => by cases h
  | m + 1, n, x :: l, K, h => by
    have := cutK_true' m n l K h
    exact ⟨by simp; omega, this.2⟩
theorem nthK_true' {α : Type} : ∀ (n : Nat) (l : List α) (K : α → Bool), nthK n l K = true → ∃ x, l[n]? = some x ∧ K x = true
  | 0, [], K, h => by cases h
  | 0, x :: l, K, h => ⟨x, rfl, h⟩
  | n + 1, [], K, h => by cases h
  | n + 1, x :: l, K, h => by
    have := nthK_true' n l K h
    simpa using this
theorem nthK_eq' {α : Type} : ∀ {n : Nat} {l : List α} {x : α} (K : α → Bool), l[n]? = some x → nthK n l K = K x
  | 0, [], x, K, h => by cases h
  | 0, y :: l, x, K, h => by cases h; rfl
  | n + 1, [], x, K, h => by cases h
  | n + 1, y :: l, x, K, h => nthK_eq' (n := n) (l := l) K (by simpa using h)

/-- Cells written over. -/
def over {α : Type} (n : Nat) (vs l : List α) : List α := l.take n ++ vs ++ l.drop (n + vs.length)
theorem put0K_true' {α : Type} : ∀ (vs l : List α) (K : List α → Bool), put0K vs l K = true → vs.length ≤ l.length ∧ K (vs ++ l.drop vs.length) = true
  | [], l, K, h => ⟨Nat.zero_le _, h⟩
  | v :: vs, [], K, h => by cases h
  | v :: vs, x :: l, K, h => by
    have := put0K_true' vs l (fun r => K (v :: r)) h
    exact ⟨by simp; exact this.1, this.2⟩
theorem putK_true' {α : Type} : ∀ (n : Nat) (vs l : List α) (K : List α → Bool), putK n vs l K = true → n + vs.length ≤ l.length ∧ K (over n vs l) = true
  | 0, vs, l, K, h => by
    have := put0K_true' vs l K h
    exact ⟨by omega, by simpa [over] using this.2⟩
  | n + 1, vs, [], K, h => by cases h
  | n + 1, vs, x :: l, K, h => by
    have := putK_true' n vs l (fun r => K (x :: r)) h
    refine ⟨by simp; omega, ?_⟩
    have e : over (n + 1) vs (x :: l) = x :: over n vs l := by
      unfold over
      rw [List.take_succ_cons, show n + 1 + vs.length = n + vs.length + 1 by omega, List.drop_succ_cons]; rfl
    rw [e]; exact this.2
theorem put0K_eq' {α : Type} : ∀ (vs l : List α) (K : List α → Bool), vs.length ≤ l.length → put0K vs l K = K (vs ++ l.drop vs.length)
  | [], l, K, h => rfl
  | v :: vs, [], K, h => by simp at h
  | v :: vs, x :: l, K, h => put0K_eq' vs l (fun r => K (v :: r)) (by simpa using h)
theorem putK_eq' {α : Type} : ∀ (n : Nat) (vs l : List α) (K : List α → Bool), n + vs.length ≤ l.length → putK n vs l K = K (over n vs l)
  | 0, vs, l, K, h => by
    show put0K vs l K = _
    rw [put0K_eq' vs l K (by omega)]; simp [over]
  | n + 1, vs, [], K, h => by simp at h
  | n + 1, vs, x :: l, K, h => by
    show putK n vs l (fun r => K (x :: r)) = _
    have e : over (n + 1) vs (x :: l) = x :: over n vs l := by
      unfold over
      rw [List.take_succ_cons, show n + 1 + vs.length = n + vs.length + 1 by omega, List.drop_succ_cons]; rfl
    rw [putK_eq' n vs l _ (by simp at h; omega), e]
theorem RSs.over {l vs : List SV} {xs ys : List AV} (h : RSs G KT σ β l xs) (h' : RSs G KT σ β vs ys) (n : Nat) : RSs G KT σ β (over n vs l) (over n ys xs) := by
  unfold Sym.over
  rw [h'.len]
  exact ((h.take n).append h').append (h.drop _)

/-! ### The call's own blocks -/
def BRel (G : Globals) (KT : KTab) (σ : List AV) (β : List Nat) (st : St) (id : Nat) : SB → Prop
  | .cells e l => ∃ cs, st.heap.get (key id) = some (.cells cs e (0, 0) id none) ∧ RSs G KT σ β l cs
  | .copy e => ∃ cs t g cap y n, st.heap.get (key id) = some (.cells cs t (0, 0) g cap) ∧ ev G σ e = some y ∧ lenAt y = some n ∧ cs.length = n ∧ ∀ j, j < n → cs[j]? = cellAt G y j

structure HR (G : Globals) (KT : KTab) (σ : List AV) (β : List Nat) (hp : T SB) (nb : Nat) (st : St) : Prop where
  len : β.length = nb
  grps : st.grps = .leaf
  lt : ∀ id ∈ β, id < st.next
  blk : ∀ b sb, hp.get (key b) = some sb → ∃ id, β[b]? = some id ∧ BRel G KT σ β st id sb
  inj : ∀ b b' sb sb' id, hp.get (key b) = some sb → hp.get (key b') = some sb' → β[b]? = some id → β[b']? = some id → b = b'

def TR (G : Globals) (KT : KTab) (σ : List AV) (β : List Nat) (tm : T SV) (ft : T AV) : Prop := ∀ t s, tm.get (key t) = some s → ∃ x, ft.get (key t) = some x ∧ RS G KT σ β s x

theorem BRel.ext (hs : Ext σ σ') (hb : ExtN β β') {st : St} {id : Nat} {sb : SB} (h : BRel G KT σ β st id sb) : BRel G KT σ' β' st id sb := by
  cases sb with
  | cells e l => obtain ⟨cs, h1, h2⟩ := h; exact ⟨cs, h1, RSs.ext hs hb _ _ h2⟩
  | copy e => obtain ⟨cs, t, g, cap, y, n, h1, h2, h3⟩ := h; exact ⟨cs, t, g, cap, y, n, h1, ev_ext hs h2, h3⟩
theorem HR.ext (hs : Ext σ σ') {hp : T SB} {nb : Nat} {st : St} (h : HR G KT σ β hp nb st) : HR G KT σ' β hp nb st :=
  ⟨h.len, h.grps, h.lt, fun b sb hb => by obtain ⟨id, h1, h2⟩ := h.blk b sb hb; exact ⟨id, h1, h2.ext hs (ExtN.refl _)⟩, h.inj⟩
theorem TR.ext (hs : Ext σ σ') (hb : ExtN β β') {tm : T SV} {ft : T AV} (h : TR G KT σ β tm ft) : TR G KT σ' β' tm ft :=
  fun t s ht => by obtain ⟨x, h1, h2⟩ := h t s ht; exact ⟨x, h1, RS.ext hs hb _ _ h2⟩

/-- A new block. -/
theorem HR.new {hp : T SB} {nb : Nat} {st : St} (h : HR G KT σ β hp nb st) {e : TypeId} {l : List SV} {cs : List AV} (hl : RSs G KT σ β l cs) :
    HR G KT σ (β ++ [st.next]) (T.set (some (.cells e l)) (key nb) hp) (nb + 1) ⟨T.set (some (.cells cs e (0, 0) st.next none)) (key st.next) st.heap, st.grps, st.next + 1⟩ := by
  have hx : ExtN β (β ++ [st.next]) := ⟨_, rfl⟩
  have hnew : (β ++ [st.next])[nb]? = some st.next := by rw [← h.len]; simp
  refine ⟨by simp [h.len], h.grps, fun id hid => ?_, fun b sb hb => ?_, fun b b' sb sb' id hb hb' h1 h2 => ?_⟩
  · rcases List.mem_append.1 hid with hid | hid
    · have := h.lt id hid; show _ < st.next + 1; omega
    · simp at hid; show _ < st.next + 1; omega
  · rw [T.get_set] at hb
    split at hb
    · rename_i e1
      cases hb
      subst e1
      exact ⟨st.next, hnew, cs, by rw [T.get_set, if_pos rfl], RSs.ext (Ext.refl _) hx _ _ hl⟩
    · obtain ⟨id, h1, h2⟩ := h.blk b sb hb
      refine ⟨id, hx.get h1, ?_⟩
      have hid : id ≠ st.next := by have := h.lt id (List.mem_of_getElem? h1); omega
      cases sb with
      | cells e l => obtain ⟨cs', q1, q2⟩ := h2; exact ⟨cs', by rw [T.get_set, if_neg hid]; exact q1, RSs.ext (Ext.refl _) hx _ _ q2⟩
      | copy e => obtain ⟨cs', t, g, cap, y, n, q1, q2⟩ := h2; exact ⟨cs', t, g, cap, y, n, by rw [T.get_set, if_neg hid]; exact q1, q2⟩
  · rw [T.get_set] at hb hb'
    have old : ∀ {b : Nat} {sb : SB}, hp.get (key b) = some sb → ∀ {id : Nat}, (β ++ [st.next])[b]? = some id → β[b]? = some id ∧ id ≠ st.next := by
      intro b sb hb id hi
      obtain ⟨id', q1, _⟩ := h.blk b sb hb
      have := hx.get q1
      rw [this] at hi; cases hi
      exact ⟨q1, by have := h.lt id (List.mem_of_getElem? q1); omega⟩
    split at hb
    · rename_i e1
      subst e1
      rw [hnew] at h1; cases h1
      split at hb'
      · rename_i e2; exact e2.symm
      · exact absurd rfl (old hb' h2).2
    · split at hb'
      · rename_i e2
        subst e2
        rw [hnew] at h2; cases h2
        exact absurd rfl (old hb h1).2
      · exact h.inj b b' _ _ id hb hb' (old hb h1).1 (old hb' h2).1
end
end
end Go.Sym
/- Operations with unknowns are sound: operands, copies, choices, comparisons. -/
namespace Go.Sym
open Go Go.Shd
noncomputable section
section
variable {P : Program} {G : Globals} {KT : KTab} {σ : List AV} {β : List Nat} {fx : Fx} {tm : T SV} {ft : T AV} {hp : T SB} {nb : Nat} {st : St}

/-- What an operation comes to. -/
def OpGoes (P : Program) (G : Globals) (KT : KTab) (σ : List AV) (β : List Nat) (o : Oper) (ft : T AV) (st : St) (K : SK) : Prop :=
  ∃ sv hp' nb' β' x st', K sv hp' nb' = true ∧ (∀ K' : ONext → St → Bool, opK P G o ft st K' = K' (.val x) st') ∧ RS G KT σ β' sv x ∧ HR G KT σ β' hp' nb' st' ∧ ExtN β β' ∧ (isPure o = true → st' = st ∧ β' = β)

theorem svOf_RS : ∀ (a : AV), RS G KT σ β (svOf a) a
  | .int k n => ⟨n, rfl, rfl⟩
  | .lit v => by
    unfold svOf
    split
    · rename_i k n e; cases e
    · rename_i e; cases e; exact ⟨true, rfl, rfl⟩
    · rename_i e; cases e; exact ⟨false, rfl, rfl⟩
    · rfl
  | .str _ => rfl
  | .ptr _ _ => rfl
  | .gptr _ _ => rfl
  | .slc .. => rfl
  | .eslc => rfl
  | .mp _ => rfl
  | .fn .. => rfl
  | .yld _ => rfl
  | .ifc .. => rfl
  | .agg _ => rfl
  | .tup _ => rfl

theorem svOfs_RS : ∀ (l : List AV), RSs G KT σ β (l.map svOf) l
  | [] => rfl
  | a :: l => ⟨a, l, rfl, svOf_RS a, svOfs_RS l⟩

theorem ung_RS (hf : FxOk G σ fx) : ∀ {v : SV} {x : AV}, RS G KT σ β v x → RS G KT σ β (ung fx v) x
  | .gd f s, x, h => by
    obtain ⟨b, h1, h2, h3⟩ := h
    unfold ung
    split
    · rename_i hk
      exact ung_RS hf (h2 (known_ok hf hk h1))
    · rename_i hk
      exact h3 (known_ok hf hk h1)
    · exact ⟨b, h1, h2, h3⟩
  | .lit _, x, h => h
  | .int _ _, x, h => h
  | .bool _, x, h => h
  | .str _, x, h => h
  | .sl _ _, x, h => h
  | .sub _ _ _, x, h => h
  | .em _, x, h => h
  | .cpy _ _ _, x, h => h
  | .ptr _ _, x, h => h
  | .mp _ _ _ _, x, h => h
  | .cp _ _ _ _, x, h => h
  | .agg _, x, h => h
  | .tup _, x, h => h

theorem sEv_true (hf : FxOk G σ fx) (ht : TR G KT σ β tm ft) {xo : Operand} {K : SV → Bool} (h : sEv fx tm xo K = true) :
    ∃ s x, K s = true ∧ RS G KT σ β s x ∧ ∀ K' : AV → Bool, evK ft xo K' = K' x := by
  cases xo with
  | tmp t =>
    simp only [sEv] at h
    split at h
    · rename_i v hv
      obtain ⟨x, h1, h2⟩ := ht _ _ hv
      exact ⟨_, x, h, ung_RS hf h2, fun K' => by simp only [evK, h1]⟩
    · cases h
  | const v =>
    simp only [sEv] at h
    split at h
    · rename_i a ha
      exact ⟨_, a, h, svOf_RS a, fun K' => by simp only [evK, ha]⟩
    · cases h
  | func f => exact ⟨_, _, h, rfl, fun K' => rfl⟩
  | global g => cases h

theorem sEvs_true (hf : FxOk G σ fx) (ht : TR G KT σ β tm ft) : ∀ {l : List Operand} {K : List SV → Bool}, sEvs fx tm l K = true →
    ∃ s x, K s = true ∧ RSs G KT σ β s x ∧ ∀ K' : List AV → Bool, evsK ft l K' = K' x
  | [], K, h => ⟨[], [], h, rfl, fun _ => rfl⟩
  | o :: l, K, h => by
    obtain ⟨s, x, h1, h2, h3⟩ := sEv_true hf ht (xo := o) (K := fun a => sEvs fx tm l fun r => K (a :: r)) h
    obtain ⟨ss, xs, q1, q2, q3⟩ := sEvs_true hf ht h1
    refine ⟨_, x :: xs, q1, ⟨x, xs, rfl, h2, q2⟩, fun K' => ?_⟩
    show evK ft o (fun a => evsK ft l fun r => K' (a :: r)) = _
    rw [h3, q3]

theorem boolS_true {v : SV} {x : AV} {K : F → Bool} (hv : RS G KT σ β v x) (h : boolS v K = true) : ∃ f b, K f = true ∧ evF G σ f = some b ∧ x = .lit (.bool b) ∧ v = .bool f := by
  unfold boolS at h
  split at h
  · rename_i f
    obtain ⟨b, h1, h2⟩ := hv
    exact ⟨f, b, h, h1, h2, rfl⟩
  · cases h

theorem oneS_ok {v : SV} {x : AV} (hv : RS G KT σ β v x) (h : oneS v = true) : oneCell x = true ∧ cellsOf x = [x] ∧ x ≠ .lit (.agg #[]) ∧ ∀ A, x ≠ .lit (.agg A) := by
  cases v with
  | lit a =>
    have hv : x = a := hv
    subst hv
    unfold oneS at h
    have hx : ∀ A, x ≠ .lit (.agg A) := fun A e => by rw [e] at h; cases h
    refine ⟨h, ?_, hx _, hx⟩
    cases x <;> first | rfl | cases h
  | int k e => obtain ⟨n, _, rfl⟩ := hv; exact ⟨rfl, rfl, (by intro e; cases e), fun _ e => by cases e⟩
  | bool f => obtain ⟨n, _, rfl⟩ := hv; exact ⟨rfl, rfl, (by intro e; cases e), fun _ e => by cases e⟩
  | str e => obtain ⟨n, _, rfl⟩ := hv; exact ⟨rfl, rfl, (by intro e; cases e), fun _ e => by cases e⟩
  | sl t e =>
    rcases hv.2.form with (rfl | rfl) | ⟨g, o, l, c, ks, lim, rfl, _⟩
    · exact ⟨rfl, rfl, (by intro e; cases e), fun _ e => by cases e⟩
    · exact ⟨rfl, rfl, (by intro e; cases e), fun _ e => by cases e⟩
    · exact ⟨rfl, rfl, (by intro e; cases e), fun _ e => by cases e⟩
  | sub t e q =>
    obtain ⟨y, n, m, _, hy, _, _, _, rfl⟩ := hv
    rcases hy.form with (rfl | rfl) | ⟨g, o, l, c, ks, lim, rfl, _⟩
    · exact ⟨rfl, rfl, (by intro e; cases e), fun _ e => by cases e⟩
    · exact ⟨rfl, rfl, (by intro e; cases e), fun _ e => by cases e⟩
    · exact ⟨rfl, rfl, (by intro e; cases e), fun _ e => by cases e⟩
  | ptr b off => obtain ⟨n, _, rfl⟩ := hv; exact ⟨rfl, rfl, (by intro e; cases e), fun _ e => by cases e⟩
  | em _ => cases h
  | cpy _ _ _ => cases h
  | mp _ _ _ _ => cases h
  | cp _ _ _ _ => cases h
  | agg _ => cases h
  | tup _ => cases h
  | gd _ _ => cases h

theorem allOneS_ok : ∀ {l : List SV} {xs : List AV}, RSs G KT σ β l xs → allOneS l = true → allOne xs = true
  | [], xs, h, _ => by simp only [RSs] at h; subst h; rfl
  | a :: l, xs, h, h1 => by
    obtain ⟨y, m, rfl, h2, h3⟩ := h
    unfold allOneS at h1
    split at h1
    · rename_i ho
      unfold allOne
      rw [(oneS_ok h2 ho).1]
      exact allOneS_ok h3 h1
    · cases h1

theorem cellsS_true {v : SV} {x : AV} {K : List SV → Bool} (hv : RS G KT σ β v x) (h : cellsS v K = true) : ∃ l, K l = true ∧ RSs G KT σ β l (cellsOf x) ∧ allOne (cellsOf x) = true ∧ ∀ A, x ≠ .lit (.agg A) := by
  have one : ∀ {v : SV}, RS G KT σ β v x → (match oneS v with | true => K [v] | false => false) = true → ∃ l, K l = true ∧ RSs G KT σ β l (cellsOf x) ∧ allOne (cellsOf x) = true ∧ ∀ A, x ≠ .lit (.agg A) := by
    intro v hv h
    split at h
    · rename_i ho
      obtain ⟨h1, h2, _, h3⟩ := oneS_ok hv ho
      rw [h2]
      refine ⟨_, h, ⟨x, [], rfl, hv, rfl⟩, ?_, h3⟩
      unfold allOne; rw [h1]; rfl
    · cases h
  cases v with
  | agg l =>
    simp only [cellsS] at h
    split at h
    · rename_i ho
      obtain ⟨xs, rfl, h2⟩ := hv
      exact ⟨l, h, h2, allOneS_ok h2 ho, fun A e => by cases e⟩
    · cases h
  | lit _ => exact one hv h
  | int _ _ => exact one hv h
  | bool _ => exact one hv h
  | str _ => exact one hv h
  | sl _ _ => exact one hv h
  | sub _ _ _ => exact one hv h
  | em _ => exact one hv h
  | cpy _ _ _ => exact one hv h
  | ptr _ _ => exact one hv h
  | mp _ _ _ _ => exact one hv h
  | cp _ _ _ _ => exact one hv h
  | tup _ => exact one hv h
  | gd _ _ => exact one hv h
end
end
end Go.Sym
/- Operations with unknowns are sound: copies, choices, blocks, loads. -/
namespace Go.Sym
open Go Go.Shd
noncomputable section
section
variable {P : Program} {G : Globals} {KT : KTab} {σ : List AV} {β : List Nat} {fx : Fx} {tm : T SV} {ft : T AV} {hp : T SB} {nb : Nat} {st : St} {o : Oper} {K : SK}

theorem OpGoes.val {sv : SV} {x : AV} (hk : K sv hp nb = true) (ho : ∀ K' : ONext → St → Bool, opK P G o ft st K' = K' (.val x) st) (hr : RS G KT σ β sv x) (hh : HR G KT σ β hp nb st) : OpGoes P G KT σ β o ft st K :=
  ⟨sv, hp, nb, β, x, st, hk, ho, hr, hh, ExtN.refl _, fun _ => ⟨rfl, rfl⟩⟩

theorem sEv_some {xo : Operand} {K : SV → Bool} (h : sEv fx tm xo K = true) : ∃ s, K s = true := by
  cases xo with
  | tmp t => simp only [sEv] at h; split at h; exact ⟨_, h⟩; cases h
  | const v => simp only [sEv] at h; split at h; exact ⟨_, h⟩; cases h
  | func f => exact ⟨_, h⟩
  | global g => cases h
theorem boolS_some {v : SV} {K : F → Bool} (h : boolS v K = true) : ∃ f, K f = true := by
  unfold boolS at h; split at h; exact ⟨_, h⟩; cases h

theorem sop_move {x : Operand} (hf : FxOk G σ fx) (ht : TR G KT σ β tm ft) (hh : HR G KT σ β hp nb st) (ho : o.op = .move x ∨ o.op = .assign x) (h : sEv fx tm x (fun v => K v hp nb) = true) : OpGoes P G KT σ β o ft st K := by
  obtain ⟨s, v, h1, h2, h3⟩ := sEv_true hf ht h
  refine .val h1 (x := v) (fun K' => ?_) h2 hh
  rcases ho with ho | ho <;> simp only [opK, ho] <;> exact h3 _

theorem sop_pick {c a b : Operand} (hf : FxOk G σ fx) (ht : TR G KT σ β tm ft) (hh : HR G KT σ β hp nb st) (ho : o.op = .pick c a b)
    (h : sEv fx tm c (fun c => boolS c fun f => match known fx f with
      | some true => sEv fx tm a fun v => K v hp nb
      | some false => sEv fx tm b fun v => K v hp nb
      | none => sEv (assume fx f true) tm a fun a => boolS a fun fa => sEv (assume fx f false) tm b fun b => boolS b fun fb => K (.bool (.ite f fa fb)) hp nb) = true) : OpGoes P G KT σ β o ft st K := by
  obtain ⟨s, v, h1, h2, h3⟩ := sEv_true hf ht h
  obtain ⟨f, r, h4, h5, rfl, rfl⟩ := boolS_true h2 h1
  have hop : ∀ K' : ONext → St → Bool, opK P G o ft st K' = (match r with
      | true => evK ft a fun v => K' (.val v) st
      | false => evK ft b fun v => K' (.val v) st) := fun K' => by
    simp only [opK, ho]
    rw [h3]
    cases r <;> rfl
  split at h4
  · rename_i hk
    have := known_ok hf hk h5
    subst this
    obtain ⟨s, v, q1, q2, q3⟩ := sEv_true hf ht h4
    exact .val q1 (fun K' => by rw [hop]; exact q3 _) q2 hh
  · rename_i hk
    have := known_ok hf hk h5
    subst this
    obtain ⟨s, v, q1, q2, q3⟩ := sEv_true hf ht h4
    exact .val q1 (fun K' => by rw [hop]; exact q3 _) q2 hh
  · cases r with
    | true =>
      obtain ⟨s, v, q1, q2, q3⟩ := sEv_true (assume_ok hf h5) ht h4
      obtain ⟨fa, ra, q4, q5, rfl, rfl⟩ := boolS_true q2 q1
      obtain ⟨s', q6⟩ := sEv_some q4
      obtain ⟨fb, q7⟩ := boolS_some q6
      exact .val q7 (x := .lit (.bool ra)) (fun K' => by rw [hop]; exact q3 _) ⟨ra, by simp only [evF, h5, q5], rfl⟩ hh
    | false =>
      obtain ⟨s', q1⟩ := sEv_some h4
      obtain ⟨fa, q2⟩ := boolS_some q1
      obtain ⟨s, v, q3, q4, q5⟩ := sEv_true (assume_ok hf h5) ht q2
      obtain ⟨fb, rb, q6, q7, rfl, rfl⟩ := boolS_true q4 q3
      exact .val q6 (x := .lit (.bool rb)) (fun K' => by rw [hop]; exact q5 _) ⟨rb, by simp only [evF, h5, q7], rfl⟩ hh

/-- A new block of cells. -/
theorem OpGoes.new {e : TypeId} {l : List SV} {cs : List AV} (hl : RSs G KT σ β l cs) (hh : HR G KT σ β hp nb st)
    (hk : K (.ptr nb 0) (T.set (some (.cells e l)) (key nb) hp) (nb + 1) = true)
    (ho : ∀ K' : ONext → St → Bool, opK P G o ft st K' = newRowK st cs e fun id st => K' (.val (.ptr id 0)) st) (hpure : isPure o = false) : OpGoes P G KT σ β o ft st K := by
  refine ⟨_, _, _, β ++ [st.next], .ptr st.next 0, _, hk, fun K' => ?_, ⟨st.next, ?_, rfl⟩, hh.new hl, ⟨_, rfl⟩, fun h => (by rw [hpure] at h; cases h)⟩
  · rw [ho]
    obtain ⟨h, g, n⟩ := st
    simp only [newRowK, T.setK_eq, natK_eq]
  · rw [← hh.len]; simp

theorem sop_alloc {e : TypeId} (hh : HR G KT σ β hp nb st) (ho : o.op = .alloc e)
    (h : (match zeroOf P e with
      | some z => T.setK (some (.cells e (z.map svOf))) (key nb) hp fun hp => natK (Nat.succ nb) fun m => K (.ptr nb 0) hp m
      | none => false) = true) : OpGoes P G KT σ β o ft st K := by
  split at h
  · rename_i z hz
    rw [T.setK_eq, natK_eq] at h
    exact .new (svOfs_RS z) hh h (fun K' => by simp only [opK, ho, hz]) (by simp [isPure, ho, kindOf])
  · cases h

theorem sop_box {e : TypeId} {x : Operand} (hf : FxOk G σ fx) (ht : TR G KT σ β tm ft) (hh : HR G KT σ β hp nb st) (ho : o.op = .box e x)
    (h : sEv fx tm x (fun v => cellsS v fun l => T.setK (some (.cells e l)) (key nb) hp fun hp => natK (Nat.succ nb) fun m => K (.ptr nb 0) hp m) = true) : OpGoes P G KT σ β o ft st K := by
  obtain ⟨s, v, h1, h2, h3⟩ := sEv_true hf ht h
  obtain ⟨l, h4, h5, _, h6⟩ := cellsS_true h2 h1
  rw [T.setK_eq, natK_eq] at h4
  refine .new h5 hh h4 (fun K' => ?_) (by simp [isPure, ho, kindOf])
  simp only [opK, ho]
  rw [h3]
  split
  · exact absurd rfl (h6 _)
  · rfl

/-! ### Loads -/
theorem Sl.cell {t : TypeId} {a : AV} (h : Sl G KT t a) {g o l c : Nat} (ha : a = .lit (.slice (some ⟨g, o, none⟩) l c)) {ks : List CK} {lim : Nat} (hk : KT.get (key t) = some (ks, lim)) {j i : Nat} {ck : CK} (hj : j < l) (hi : ks[i]? = some ck)
    {e ei : E} {ki : IntKind} (he : ev G σ e = some a) (hei : ev G σ ei = some (.int ki (Int.ofNat j))) : ∃ x, cellAt G a (j * ks.length + i) = some x ∧ RS G KT σ β (mkCK ck (.rd e ei ks.length i)) x := by
  have at' : ∀ n, ∃ x, cellAt G a (j * ks.length + i) = some x ∧ (match ck with
        | .int k => ∃ z, x = .int k z
        | .bool => ∃ b, x = .lit (.bool b)
        | .str => ∃ l, x = .str l
        | .sl t' => Dp G KT n t' x) := by
    intro n
    rcases h (n + 1) with h | ⟨g', o', l', c', ks', lim', h1, h2, h3, h4, h5⟩
    · rw [ha] at h; rcases h with h | h <;> cases h
    · rw [hk] at h3; cases h3
      rw [ha] at h1; cases h1
      exact h5 j hj i ck hi
  obtain ⟨x, h1, h2⟩ := at' 0
  have hev : ev G σ (.rd e ei ks.length i) = some x := by
    unfold ev
    rw [he, hei]
    subst ha
    simp only [lenAt, if_pos hj]
    exact h1
  refine ⟨x, h1, ?_⟩
  cases ck with
  | int k => obtain ⟨z, rfl⟩ := h2; exact ⟨z, hev, rfl⟩
  | bool => obtain ⟨b, rfl⟩ := h2; exact ⟨b, by simp only [evF, hev], rfl⟩
  | str => obtain ⟨l, rfl⟩ := h2; exact ⟨l, hev, rfl⟩
  | sl t' =>
    refine ⟨hev, fun n => ?_⟩
    obtain ⟨x', q1, q2⟩ := at' n
    rw [h1] at q1; cases q1
    exact q2

theorem rdL_get {e i : E} {sz : Nat} : ∀ {ks : List CK} {k j : Nat}, (rdL e i sz ks k)[j]? = (ks[j]?).map fun c => mkCK c (.rd e i sz (k + j))
  | [], k, j => by simp [rdL]
  | c :: l, k, 0 => by simp [rdL]
  | c :: l, k, j + 1 => by
    simp only [rdL, List.getElem?_cons_succ]
    rw [rdL_get]
    congr 1
    funext c
    rw [show k.succ + j = k + (j + 1) by omega]
theorem rdL_len {e i : E} {sz : Nat} : ∀ {ks : List CK} {k : Nat}, (rdL e i sz ks k).length = ks.length
  | [], k => rfl
  | c :: l, k => by simp [rdL, rdL_len]

/-- A list of values out of pointwise facts. -/
theorem RSs.of_get : ∀ {l : List SV} {xs : List AV}, l.length = xs.length → (∀ (i : Nat) (s : SV), l[i]? = some s → ∃ x, xs[i]? = some x ∧ RS G KT σ β s x) → RSs G KT σ β l xs
  | [], [], _, _ => rfl
  | [], _ :: _, h, _ => by simp at h
  | _ :: _, [], h, _ => by simp at h
  | a :: l, y :: m, h, hg => by
    obtain ⟨x, h1, h2⟩ := hg 0 a rfl
    cases h1
    exact ⟨y, m, rfl, h2, RSs.of_get (by simpa using h) fun i s hi => by simpa using hg (i + 1) s (by simpa using hi)⟩

theorem sLoad_true {t : TypeId} {a : SV} {x : AV} {K : SV → Bool} (hh : HR G KT σ β hp nb st) (ha : RS G KT σ β a x) (h : sLoad P KT hp t a K = true) :
    ∃ s y, K s = true ∧ RS G KT σ β s y ∧ ∀ K' : AV → Bool, loadK P G st t x K' = K' y := by
  unfold sLoad at h
  split at h
  · -- of a block of the call's own
    rename_i b off
    obtain ⟨id, hb, rfl⟩ := ha
    split at h
    case h_2 => cases h
    rename_i t' l hl
    obtain ⟨id', hb', cs, hc, hr⟩ := hh.blk _ _ hl
    rw [hb] at hb'; cases hb'
    split at h
    · rename_i hag
      split at h
      case h_2 => cases h
      rename_i n hn
      obtain ⟨h1, h2⟩ := cutK_true' _ _ _ _ h
      refine ⟨_, .agg ((cs.drop off).take n), h2, ⟨_, rfl, (hr.drop _).take _⟩, fun K' => ?_⟩
      simp only [loadK, hag, hn, readK, hc]
      rw [cutK_eq _ _ _ _ (by rw [hr.len]; simpa using h1)]
      rfl
    · rename_i hag
      obtain ⟨s, h1, h2⟩ := nthK_true' _ _ _ h
      obtain ⟨y, q1, q2⟩ := hr.get h1
      refine ⟨s, y, h2, q2, fun K' => ?_⟩
      simp only [loadK, hag, readK, hc]
      have hlt := (List.getElem?_eq_some_iff.1 q1).1
      rw [cutK_eq _ _ _ _ (by show off + 0 + 1 ≤ _; omega)]
      have e1 : (cs.drop (off + 0)).take 1 = [y] := by
        rw [Nat.add_zero, List.drop_eq_getElem_cons hlt]
        have := (List.getElem?_eq_some_iff.1 q1).2
        simp [this]
      show (match (cs.drop (off + 0)).take 1 with | [v] => K' v | _ => false) = _
      rw [e1]
    · cases h
  · -- of a slice that came in
    rename_i te e i off
    obtain ⟨g, o', l, c, k, j, ks, lim, h1, h2, h3, h4, h5, rfl⟩ := ha
    rw [h5] at h
    simp only at h
    have cell : ∀ {q : Nat} {ck : CK}, ks[q]? = some ck → ∃ x, cellAt G (.lit (.slice (some ⟨g, o', none⟩) l c)) (j * ks.length + q) = some x ∧ RS G KT σ β (mkCK ck (.rd e i ks.length q)) x :=
      fun hq => h2.cell rfl h5 h4 hq h1 h3
    have glob : ∀ {q : Nat} {x : AV}, cellAt G (.lit (.slice (some ⟨g, o', none⟩) l c)) q = some x → ∃ cs, G g = some cs ∧ cs[o' + q]? = some x := by
      intro q x hq
      unfold cellAt at hq
      obtain ⟨cs, q1, q2⟩ := Option.bind_eq_some_iff.1 hq
      exact ⟨cs, q1, q2⟩
    split at h
    · rename_i hag
      split at h
      case h_2 => cases h
      rename_i n hn
      obtain ⟨q1, q2⟩ := cutK_true' _ _ _ _ h
      rw [rdL_len] at q1
      have at' : ∀ q, q < n + 1 → ∃ ck, ks[off + q]? = some ck := fun q hq => ⟨_, List.getElem?_eq_getElem (by omega)⟩
      obtain ⟨ck0, hck0⟩ := at' 0 (by omega)
      obtain ⟨y0, q4, _⟩ := cell hck0
      obtain ⟨cs, q6, _⟩ := glob q4
      have each : ∀ q, q < n + 1 → ∀ ck, ks[off + q]? = some ck → ∃ y, cs[(o' + j * ks.length + off) + q]? = some y ∧ RS G KT σ β (mkCK ck (.rd e i ks.length (off + q))) y := by
        intro q hq ck hck
        obtain ⟨y, r1, r2⟩ := cell hck
        obtain ⟨cs', r3, r4⟩ := glob r1
        rw [q6] at r3; cases r3
        exact ⟨y, by rw [show o' + j * ks.length + off + q = o' + (j * ks.length + (off + q)) by omega]; exact r4, r2⟩
      have hlen : (o' + j * ks.length + off) + (n + 1) ≤ cs.length := by
        obtain ⟨ck, hck⟩ := at' n (by omega)
        obtain ⟨y, r1, _⟩ := each n (by omega) ck hck
        have := (List.getElem?_eq_some_iff.1 r1).1
        omega
      refine ⟨_, .agg ((cs.drop (o' + j * ks.length + off)).take (n + 1)), q2, ⟨_, rfl, RSs.of_get ?_ ?_⟩, fun K' => ?_⟩
      · simp [rdL_len]; omega
      · intro q s hs
        rw [List.getElem?_take] at hs
        split at hs
        case isFalse => cases hs
        rename_i hq
        rw [List.getElem?_drop, rdL_get] at hs
        obtain ⟨ck, r1, rfl⟩ := Option.map_eq_some_iff.1 hs
        obtain ⟨y, r2, r3⟩ := each q hq ck r1
        refine ⟨y, ?_, by simpa using r3⟩
        rw [List.getElem?_take, if_pos hq, List.getElem?_drop]
        exact r2
      · simp only [loadK, hag, hn, readK, q6]
        rw [cutK_eq _ _ _ _ (by show (o' + j * ks.length + off) + 0 + (n + 1) ≤ _; omega)]
        rfl
    · rename_i hag
      obtain ⟨s, q1, q2⟩ := nthK_true' _ _ _ h
      rw [rdL_get] at q1
      obtain ⟨ck, q3, rfl⟩ := Option.map_eq_some_iff.1 q1
      obtain ⟨y, q4, q5⟩ := cell q3
      obtain ⟨cs, q6, q7⟩ := glob q4
      refine ⟨_, y, q2, by simpa using q5, fun K' => ?_⟩
      simp only [loadK, hag, readK, q6]
      have hlt := (List.getElem?_eq_some_iff.1 q7).1
      rw [cutK_eq _ _ _ _ (by show (o' + j * ks.length + off) + 0 + 1 ≤ _; omega)]
      have e1 : (cs.drop ((o' + j * ks.length + off) + 0)).take 1 = [y] := by
        rw [Nat.add_zero, show o' + j * ks.length + off = o' + (j * ks.length + off) by omega, List.drop_eq_getElem_cons hlt]
        have := (List.getElem?_eq_some_iff.1 q7).2
        simp [this]
      show (match (cs.drop ((o' + j * ks.length + off) + 0)).take 1 with | [v] => K' v | _ => false) = _
      rw [e1]
    · cases h
  · -- of a copy
    rename_i te e i b
    obtain ⟨id, y, n, k, j, h1, h2, h3, h4, h5, h6, rfl⟩ := ha
    split at h
    case h_2 => cases h
    rename_i e' c lim hb hk hag
    split at h
    case h_2 => cases h
    rename_i he
    have he := E.beq_eq he
    subst he
    obtain ⟨id', hb', cs, t', g', cap, y', n', r1, r2, r3, r4, r5⟩ := hh.blk _ _ hb
    rw [h1] at hb'; cases hb'
    rw [h2] at r2; cases r2
    rw [h4] at r3; cases r3
    rcases h3.form with (rfl | rfl) | ⟨g, o', l, c', ks, lim', rfl, _, hk', _⟩
    · cases h4; omega
    · cases h4; omega
    · rw [hk] at hk'; cases hk'
      cases h4
      obtain ⟨x, q1, q2⟩ := h3.cell (β := β) rfl hk h6 (i := 0) (ck := c) rfl h2 h5
      have q3 := r5 j h6
      simp only [List.length_singleton, Nat.mul_one, Nat.add_zero] at q1 q2
      rw [q1] at q3
      refine ⟨_, x, h, q2, fun K' => ?_⟩
      simp only [loadK, hag, readK, r1]
      have hlt := (List.getElem?_eq_some_iff.1 q3).1
      rw [cutK_eq _ _ _ _ (by show j + 0 + 1 ≤ _; omega)]
      have e1 : (cs.drop (j + 0)).take 1 = [x] := by
        rw [Nat.add_zero, List.drop_eq_getElem_cons hlt]
        have := (List.getElem?_eq_some_iff.1 q3).2
        simp [this]
      show (match (cs.drop (j + 0)).take 1 with | [v] => K' v | _ => false) = _
      rw [e1]
  · cases h

theorem sop_load {t : TypeId} {a : Operand} (hf : FxOk G σ fx) (ht : TR G KT σ β tm ft) (hh : HR G KT σ β hp nb st) (ho : o.op = .load t a) (h : sEv fx tm a (fun a => sLoad P KT hp t a fun v => K v hp nb) = true) : OpGoes P G KT σ β o ft st K := by
  obtain ⟨s, v, h1, h2, h3⟩ := sEv_true hf ht h
  obtain ⟨s', y, q1, q2, q3⟩ := sLoad_true hh h2 h1
  refine .val q1 (fun K' => ?_) q2 hh
  simp only [opK, ho]
  rw [h3, q3]

theorem sop_fieldAddr {s f : Nat} {x : Operand} (hf : FxOk G σ fx) (ht : TR G KT σ β tm ft) (hh : HR G KT σ β hp nb st) (ho : o.op = .fieldAddr s x f)
    (h : sEv fx tm x (fun v => match fieldOf P s f with
    | some fd => match sizeOf? P fd.type with
      | some (_ + 1) => match v with
        | .ptr b o => natK (Nat.add o fd.offset) fun o => K (.ptr b o) hp nb
        | .mp t e i o => natK (Nat.add o fd.offset) fun o => K (.mp t e i o) hp nb
        | _ => false
      | _ => false
    | none => false) = true) : OpGoes P G KT σ β o ft st K := by
  obtain ⟨s', v, h1, h2, h3⟩ := sEv_true hf ht h
  split at h1
  case h_2 => cases h1
  rename_i fd hfd
  split at h1
  case h_2 => cases h1
  rename_i n hn
  split at h1
  · rename_i b off
    rw [natK_eq] at h1
    obtain ⟨id, hb, rfl⟩ := h2
    exact .val h1 (x := .ptr id (Nat.add off fd.offset)) (fun K' => by simp only [opK, ho]; rw [h3]; simp only [hfd, hn, natK_eq]) ⟨id, hb, rfl⟩ hh
  · rename_i t e i off
    rw [natK_eq] at h1
    obtain ⟨g, o', l, c, k, j, ks, lim, q1, q2, q3, q4, q5, rfl⟩ := h2
    refine .val h1 (x := .gptr g (Nat.add (o' + j * ks.length + off) fd.offset)) (fun K' => by simp only [opK, ho]; rw [h3]; simp only [hfd, hn, natK_eq]) ⟨g, o', l, c, k, j, ks, lim, q1, q2, q3, q4, q5, ?_⟩ hh
    show AV.gptr g (o' + j * ks.length + off + fd.offset) = _
    rw [Nat.add_assoc]; rfl
  · cases h1

theorem sop_field {t f : Nat} {x : Operand} (hf : FxOk G σ fx) (ht : TR G KT σ β tm ft) (hh : HR G KT σ β hp nb st) (ho : o.op = .field t x f)
    (h : sEv fx tm x (fun v => match fieldOf P t f, v with
    | some fd, .agg cs => match aggOf P fd.type with
      | some true => match sizeOf? P fd.type with
        | some n => cutK fd.offset n cs fun l => K (.agg l) hp nb
        | none => false
      | some false => nthK fd.offset cs fun v => K v hp nb
      | none => false
    | _, _ => false) = true) : OpGoes P G KT σ β o ft st K := by
  obtain ⟨s', v, h1, h2, h3⟩ := sEv_true hf ht h
  split at h1
  case h_2 => cases h1
  rename_i fd cs hfd
  obtain ⟨xs, rfl, hr⟩ := h2
  split at h1
  · rename_i hag
    split at h1
    case h_2 => cases h1
    rename_i n hn
    obtain ⟨q1, q2⟩ := cutK_true' _ _ _ _ h1
    refine .val q2 (x := .agg ((xs.drop fd.offset).take n)) (fun K' => ?_) ⟨_, rfl, (hr.drop _).take _⟩ hh
    simp only [opK, ho]
    rw [h3]
    simp only [hfd, partK, hag, hn]
    rw [cutK_eq _ _ _ _ (by rw [hr.len]; exact q1)]
  · rename_i hag
    obtain ⟨s, q1, q2⟩ := nthK_true' _ _ _ h1
    obtain ⟨y, q3, q4⟩ := hr.get q1
    refine .val q2 (x := y) (fun K' => ?_) q4 hh
    simp only [opK, ho]
    rw [h3]
    simp only [hfd, partK, hag]
    exact nthK_eq' _ q3
  · cases h1

theorem sop_extract {x : Operand} {i : Nat} (hf : FxOk G σ fx) (ht : TR G KT σ β tm ft) (hh : HR G KT σ β hp nb st) (ho : o.op = .extract x i)
    (h : sEv fx tm x (fun v => match v with
    | .tup l => nthK i l fun v => K v hp nb
    | _ => false) = true) : OpGoes P G KT σ β o ft st K := by
  obtain ⟨s', v, h1, h2, h3⟩ := sEv_true hf ht h
  split at h1
  case h_2 => cases h1
  obtain ⟨xs, rfl, hr⟩ := h2
  obtain ⟨s, q1, q2⟩ := nthK_true' _ _ _ h1
  obtain ⟨y, q3, q4⟩ := hr.get q1
  refine .val q2 (x := y) (fun K' => ?_) q4 hh
  simp only [opK, ho]
  rw [h3]
  exact nthK_eq' _ q3
end
end
end Go.Sym
/- Operations with unknowns are sound: numbers, slices, stores. -/
namespace Go.Sym
open Go Go.Shd
noncomputable section
section
variable {P : Program} {G : Globals} {KT : KTab} {σ : List AV} {β : List Nat} {fx : Fx} {tm : T SV} {ft : T AV} {hp : T SB} {nb : Nat} {st : St} {o : Oper} {K : SK}

theorem arith_pure {op : BinOp} {b : E} (h : arith op b = true) {t : TypeId} {k : IntKind} {x y : Int} (hb : ∀ k' n, b = .int k' n → y = n) : ∃ z, Go.binOp op t (.int k x) (.int k y) = .pure (.int k z) := by
  cases op <;> simp only [arith] at h <;> try cases h
  · exact ⟨_, by simp [Go.binOp, Op.intArith]; rfl⟩
  · exact ⟨_, by simp [Go.binOp, Op.intArith]; rfl⟩
  · exact ⟨_, by simp [Go.binOp, Op.intArith]; rfl⟩
  · split at h
    · rename_i k' n
      have := hb _ _ rfl
      subst this
      have hy : y ≠ 0 := fun e => by rw [e] at h; cases h
      exact ⟨_, by simp [Go.binOp, Op.intDiv, hy]; rfl⟩
    · cases h
  · split at h
    · rename_i k' n
      have := hb _ _ rfl
      subst this
      have hy : y ≠ 0 := fun e => by rw [e] at h; cases h
      exact ⟨_, by simp [Go.binOp, Op.intDiv, hy]; rfl⟩
    · cases h

theorem iv_of {e : E} {k : IntKind} {n : Int} (h : ev G σ e = some (.int k n)) : iv G σ e = some n := by unfold iv; rw [h]

theorem guardOk_int {op : BinOp} {t : TypeId} {x y : Operand} {k k' : IntKind} {a b : Int} : guardOk P op t x y (.int k a) (.int k' b) = true := by cases op <;> rfl
theorem guardOk_str {op : BinOp} {t : TypeId} {x y : Operand} {a b : List Nat} : guardOk P op t x y (.str a) (.str b) = true := by cases op <;> rfl

theorem sBin_true {op : BinOp} {t : TypeId} {x y : SV} {a b : AV} {K : SV → Bool} (hx : RS G KT σ β x a) (hy : RS G KT σ β y b) (h : sBin op t x y K = true) :
    ∃ s z, K s = true ∧ RS G KT σ β s z ∧ (∀ K' : AV → Bool, binK P st op t a b K' = K' z) ∧ ∀ xo yo, guardOk P op t xo yo a b = true := by
  unfold sBin at h
  split at h
  · rename_i k a' k' b'
    obtain ⟨n, h1, rfl⟩ := hx
    obtain ⟨m, h2, rfl⟩ := hy
    split at h
    case h_2 => cases h
    rename_i hk
    have hk' := of_decide_eq_true hk
    subst hk'
    split at h
    · rename_i f hf
      have i1 := iv_of h1
      have i2 := iv_of h2
      cases op <;> simp only [cmpF] at hf <;> cases hf
      · exact ⟨_, .lit (.bool (intBeq n m)), h, ⟨_, by simp only [evF, i1, i2, cmpInt], rfl⟩, fun K' => by simp only [binK, boolK_eq, decide_true], fun _ _ => rfl⟩
      · exact ⟨_, .lit (.bool (!(intBeq n m))), h, ⟨_, by simp only [evF, i1, i2, cmpInt, Option.map_some], rfl⟩, fun K' => by simp only [binK, boolK_eq, decide_true], fun _ _ => rfl⟩
      · exact ⟨_, .lit (.bool (intLt n m)), h, ⟨_, by simp only [evF, i1, i2, cmpInt], rfl⟩, fun K' => by simp only [binK, boolK_eq, decide_true], fun _ _ => rfl⟩
      · exact ⟨_, .lit (.bool (intLe n m)), h, ⟨_, by simp only [evF, i1, i2, cmpInt], rfl⟩, fun K' => by simp only [binK, boolK_eq, decide_true], fun _ _ => rfl⟩
      · exact ⟨_, .lit (.bool (intLt m n)), h, ⟨_, by simp only [evF, i1, i2, cmpInt], rfl⟩, fun K' => by simp only [binK, boolK_eq, decide_true], fun _ _ => rfl⟩
      · exact ⟨_, .lit (.bool (intLe m n)), h, ⟨_, by simp only [evF, i1, i2, cmpInt], rfl⟩, fun K' => by simp only [binK, boolK_eq, decide_true], fun _ _ => rfl⟩
    · split at h
      case h_2 => cases h
      rename_i ha
      obtain ⟨z, hz⟩ := arith_pure (t := t) (k := k) (x := n) (y := m) ha (fun k' n' e => by subst e; simp only [ev, Option.some.injEq, AV.int.injEq] at h2; exact h2.2.symm)
      refine ⟨_, .int k z, h, ⟨z, by simp only [ev, h1, h2, hz], rfl⟩, fun K' => ?_, fun _ _ => guardOk_int⟩
      cases op <;> simp only [arith] at ha <;> first | (simp only [binK, semOk, hz, intK_eq]; done) | cases ha
  · rename_i a' b'
    obtain ⟨n, h1, rfl⟩ := hx
    obtain ⟨m, h2, rfl⟩ := hy
    split at h
    · exact ⟨_, .lit (.bool (beqL n m)), h, ⟨_, by simp only [evF, h1, h2], rfl⟩, fun K' => by simp only [binK, boolK_eq], fun _ _ => rfl⟩
    · exact ⟨_, .lit (.bool (!(beqL n m))), h, ⟨_, by simp only [evF, h1, h2, Option.map_some], rfl⟩, fun K' => by simp only [binK, boolK_eq], fun _ _ => rfl⟩
    · cases h
  · cases h

theorem sop_binOp {op : BinOp} {t u : TypeId} {x y : Operand} (hf : FxOk G σ fx) (ht : TR G KT σ β tm ft) (hh : HR G KT σ β hp nb st) (ho : o.op = .binOp op t x y u)
    (h : sEv fx tm x (fun a => sEv fx tm y fun b => sBin op t a b fun v => K v hp nb) = true) : OpGoes P G KT σ β o ft st K := by
  obtain ⟨s, v, h1, h2, h3⟩ := sEv_true hf ht h
  obtain ⟨s', v', q1, q2, q3⟩ := sEv_true hf ht h1
  obtain ⟨s'', z, r1, r2, r3, r4⟩ := sBin_true (P := P) (st := st) h2 q2 q1
  refine .val r1 (x := z) (fun K' => ?_) r2 hh
  simp only [opK, ho]
  rw [h3, q3, r4]
  exact r3 _

theorem sop_not {t : TypeId} {x : Operand} (hf : FxOk G σ fx) (ht : TR G KT σ β tm ft) (hh : HR G KT σ β hp nb st) (ho : o.op = .unOp .not t x)
    (h : sEv fx tm x (fun v => boolS v fun f => K (.bool (.no f)) hp nb) = true) : OpGoes P G KT σ β o ft st K := by
  obtain ⟨s, v, h1, h2, h3⟩ := sEv_true hf ht h
  obtain ⟨f, r, h4, h5, rfl, rfl⟩ := boolS_true h2 h1
  refine .val h4 (x := .lit (.bool (!r))) (fun K' => ?_) ⟨!r, by simp only [evF, h5, Option.map_some], rfl⟩ hh
  simp only [opK, ho]
  rw [h3]
  simp only [boolK_eq]

theorem sop_convert {src dst : TypeId} {x : Operand} (hf : FxOk G σ fx) (ht : TR G KT σ β tm ft) (hh : HR G KT σ β hp nb st) (ho : o.op = .convert src dst x)
    (h : sEv fx tm x (fun v => match und P src, und P dst, v with
    | some _, some (.int k), .int _ e => K (.int k (.conv k e)) hp nb
    | _, _, _ => false) = true) : OpGoes P G KT σ β o ft st K := by
  obtain ⟨s, v, h1, h2, h3⟩ := sEv_true hf ht h
  split at h1
  case h_2 => cases h1
  rename_i d k k' e hs hd
  obtain ⟨n, q1, rfl⟩ := h2
  refine .val h1 (x := .int k (k.wrap n)) (fun K' => ?_) ⟨_, by simp only [ev, q1], rfl⟩ hh
  simp only [opK, ho]
  rw [h3]
  simp only [convK, hs, hd, intK_eq]

theorem nat_of_nonneg {n : Int} (h : 0 ≤ n) : ∃ m : Nat, n = Int.ofNat m := ⟨n.toNat, by simp; omega⟩

theorem idxOk0_true (hf : FxOk G σ fx) {i n : E} {ki kn : IntKind} {vi : Int} {vn : Nat} (hi : ev G σ i = some (.int ki vi)) (hn : ev G σ n = some (.int kn (Int.ofNat vn))) (h : idxOk0 fx i n = true) :
    ∃ j : Nat, vi = Int.ofNat j ∧ j < vn := by
  unfold idxOk0 at h
  split at h
  · rename_i h0
    have h1 := nonneg_ok hf (iv_of hi) h0
    have h2 := ltOk_ok hf (iv_of hi) (iv_of hn) h0 h
    obtain ⟨j, rfl⟩ := nat_of_nonneg h1
    exact ⟨j, rfl, by simpa using h2⟩
  · cases h

theorem allIdx_ok (hf : FxOk G σ fx) {s i n : E} {ki kn : IntKind} {vi : Int} {vn : Nat} (hi : ev G σ (.rd s i 1 0) = some (.int ki vi)) (hn : ev G σ n = some (.int kn (Int.ofNat vn))) : ∀ {l : List (E × E × E)}, (∀ p ∈ l, AllOk G σ p) → allIdx fx s n l = true →
    ∃ j : Nat, vi = Int.ofNat j ∧ j < vn
  | [], _, h => by cases h
  | (s', c, h') :: l, hl, h => by
    have rc := allIdx_ok hf hi hn (l := l) (fun p hp => hl p (List.mem_cons_of_mem _ hp))
    unfold allIdx at h
    split at h
    case h_2 => exact rc h
    rename_i hs
    split at h
    case h_2 => exact rc h
    rename_i hh
    split at h
    case h_2 => exact rc h
    rename_i hc
    have hs := E.beq_eq hs
    have hh := E.beq_eq hh
    subst hs hh
    obtain ⟨a, N, H, q1, q2, q3, q4⟩ := hl _ List.mem_cons_self
    simp only at q1 q2 q3
    rw [iv_of hn] at q3
    cases q3
    unfold ev at hi
    rw [q1] at hi
    cases hj : ev G σ i with
    | none => rw [hj] at hi; cases hi
    | some y =>
      rw [hj] at hi
      split at hi
      case h_2 => cases hi
      rename_i a' k' m e1 e2
      cases e1
      cases e2
      split at hi
      case h_2 => cases hi
      rename_i len hlen
      split at hi
      case isFalse => cases hi
      rename_i hm
      simp only [Nat.mul_one, Nat.add_zero] at hi
      have hle : iv G σ (.len s) = some (Int.ofNat len) := by
        unfold iv ev
        rw [q1]
        simp only [hlen, Option.map_some]
      have := leStep_ok hf q2 hle hc
      have hlt : (m : Int) < N := by
        have : (Int.ofNat len : Int) = (len : Int) := rfl
        omega
      obtain ⟨k, x, r1, r2, r3⟩ := q4 m hlt
      rw [hi] at r1
      cases r1
      obtain ⟨j, rfl⟩ := nat_of_nonneg r2
      exact ⟨j, rfl, by simpa using r3⟩
theorem idxOk_true (hf : FxOk G σ fx) {i n : E} {ki kn : IntKind} {vi : Int} {vn : Nat} (hi : ev G σ i = some (.int ki vi)) (hn : ev G σ n = some (.int kn (Int.ofNat vn))) (h : idxOk fx i n = true) :
    ∃ j : Nat, vi = Int.ofNat j ∧ j < vn := by
  unfold idxOk at h
  split at h
  · rename_i h0; exact idxOk0_true hf hi hn h0
  · split at h
    · exact allIdx_ok hf hi hn hf.al h
    · cases h

theorem ev_len {e : E} {y : AV} {n : Nat} (h : ev G σ e = some y) (hn : lenAt y = some n) : ev G σ (.len e) = some (.int .i64 (Int.ofNat n)) := by
  unfold ev; rw [h]; simp only [hn, Option.map_some]

theorem sop_indexAddr {t : TypeId} {x ix : Operand} (hf : FxOk G σ fx) (ht : TR G KT σ β tm ft) (hh : HR G KT σ β hp nb st) (ho : o.op = .indexAddr t x ix)
    (h : sEv fx tm x (fun v => sEv fx tm ix fun i => match und P t, i with
    | some (.slice el), .int _ i => match v with
      | .sl te e => match idxOk fx i (.len e), KT.get (key te), sizeOf? P el with
        | true, some (ks, _), some n => match Nat.beq ks.length n with
          | true => K (.mp te e i 0) hp nb
          | false => false
        | _, _, _ => false
      | .sub te e h => match idxOk fx i h, KT.get (key te), sizeOf? P el with
        | true, some (ks, _), some n => match Nat.beq ks.length n with
          | true => K (.mp te e i 0) hp nb
          | false => false
        | _, _, _ => false
      | .cpy te b e => match idxOk fx i (.len e), sizeOf? P el with
        | true, some 1 => K (.cp te e i b) hp nb
        | _, _ => false
      | _ => false
    | _, _ => false) = true) : OpGoes P G KT σ β o ft st K := by
  obtain ⟨s, v, h1, h2, h3⟩ := sEv_true hf ht h
  obtain ⟨s', v', q1, q2, q3⟩ := sEv_true hf ht h1
  split at q1
  case h_2 => cases q1
  rename_i el ki i hu
  obtain ⟨vi, hi, rfl⟩ := q2
  split at q1
  · rename_i te e
    split at q1
    case h_2 => cases q1
    rename_i ks lim n hix hk hn
    split at q1
    case h_2 => cases q1
    rename_i hsz
    have hsz := Nat.eq_of_beq_eq_true hsz
    subst hsz
    obtain ⟨he, hs⟩ := h2
    obtain ⟨m, hm⟩ := hs.len
    obtain ⟨j, rfl, hj⟩ := idxOk_true hf hi (ev_len he hm) hix
    rcases hs.form with (rfl | rfl) | ⟨g, o', l, c, ks', lim', rfl, _, hk', _⟩
    · cases hm; omega
    · cases hm; omega
    · rw [hk] at hk'; cases hk'
      have hlm := Option.some.inj hm
      subst hlm
      refine .val q1 (x := .gptr g (Nat.add o' (Nat.mul j ks.length))) (fun K' => ?_) ⟨g, o', l, c, ki, j, ks, lim, he, hs, hi, hj, hk, rfl⟩ hh
      simp only [opK, ho]
      rw [h3, q3]
      have hb : Nat.blt j l = true := by rw [Nat.blt_eq]; exact hj
      simp only [hu, hb, hn, natK_eq]
  · rename_i te e hq
    split at q1
    case h_2 => cases q1
    rename_i ks lim n hix hk hn
    split at q1
    case h_2 => cases q1
    rename_i hsz
    have hsz := Nat.eq_of_beq_eq_true hsz
    subst hsz
    obtain ⟨y, nn, m, he, hs, hm, hq', hmn, rfl⟩ := h2
    obtain ⟨j, rfl, hj⟩ := idxOk_true hf hi hq' hix
    rcases hs.form with (rfl | rfl) | ⟨g, o', l, c, ks', lim', rfl, _, hk', _⟩
    · cases hm; omega
    · cases hm; omega
    · rw [hk] at hk'; cases hk'
      have hlm := Option.some.inj hm
      subst hlm
      refine .val q1 (x := .gptr g (Nat.add o' (Nat.mul j ks.length))) (fun K' => ?_) ⟨g, o', l, c, ki, j, ks, lim, he, hs, hi, by omega, hk, rfl⟩ hh
      simp only [opK, ho]
      rw [h3, q3]
      have hb : Nat.blt j m = true := by rw [Nat.blt_eq]; exact hj
      simp only [cutSl, hu, hb, hn, natK_eq]
  · rename_i te b e
    split at q1
    case h_2 => cases q1
    rename_i hix hn
    obtain ⟨id, y, n, lb, ex, hb, he, hs, hm, rfl⟩ := h2
    obtain ⟨j, rfl, hj⟩ := idxOk_true hf hi (ev_len he hm) hix
    refine .val q1 (x := .ptr id j) (fun K' => ?_) ⟨id, y, n, ki, j, hb, he, hs, hm, hi, hj, rfl⟩ hh
    simp only [opK, ho]
    rw [h3, q3]
    have hb : Nat.blt j n = true := by rw [Nat.blt_eq]; exact hj
    simp only [hu, hb, hn, natK_eq]
    show K' (.val (.ptr id (0 + j * 1))) st = _
    rw [Nat.zero_add, Nat.mul_one]
  · cases q1

theorem sop_index {t : TypeId} {x ix : Operand} (hf : FxOk G σ fx) (ht : TR G KT σ β tm ft) (hh : HR G KT σ β hp nb st) (ho : o.op = .index t x ix)
    (h : sEv fx tm x (fun v => sEv fx tm ix fun i => match und P t, v, i with
    | some .string, .str s, .int _ i => match idxOk fx i (.len s) with
      | true => K (.int .u8 (.chr s i)) hp nb
      | false => false
    | _, _, _ => false) = true) : OpGoes P G KT σ β o ft st K := by
  obtain ⟨s, v, h1, h2, h3⟩ := sEv_true hf ht h
  obtain ⟨s', v', q1, q2, q3⟩ := sEv_true hf ht h1
  split at q1
  case h_2 => cases q1
  rename_i e ki i hu
  split at q1
  case h_2 => cases q1
  rename_i hix
  obtain ⟨l, he, rfl⟩ := h2
  obtain ⟨vi, hi, rfl⟩ := q2
  obtain ⟨j, rfl, hj⟩ := idxOk_true hf hi (ev_len (n := l.length) he rfl) hix
  obtain ⟨b, hb⟩ : ∃ b, l[j]? = some b := ⟨_, List.getElem?_eq_getElem hj⟩
  refine .val q1 (x := .int .u8 (Int.ofNat b)) (fun K' => ?_) ⟨_, by simp only [ev, he, hi, hb, Option.map_some], rfl⟩ hh
  simp only [opK, ho]
  rw [h3, q3]
  simp only [hu]
  exact nthK_eq' _ hb

theorem sop_slice {t : TypeId} {x hi : Operand} (hf : FxOk G σ fx) (ht : TR G KT σ β tm ft) (hh : HR G KT σ β hp nb st) (ho : o.op = .slice t x none (some hi) none)
    (h : sEv fx tm x (fun v => sEv fx tm hi fun h => match und P t, v, h with
    | some (.slice e), .sl te s, .int .i64 h => match sizeOf? P e with
      | some _ => match nonneg fx h with
        | true => match leOk fx h (.len s) with
          | true => K (.sub te s h) hp nb
          | false => false
        | false => false
      | none => false
    | _, _, _ => false) = true) : OpGoes P G KT σ β o ft st K := by
  obtain ⟨s, v, h1, h2, h3⟩ := sEv_true hf ht h
  obtain ⟨s', v', q1, q2, q3⟩ := sEv_true hf ht h1
  split at q1
  case h_2 => cases q1
  rename_i el te e i hu
  split at q1
  case h_2 => cases q1
  rename_i sz hsz
  split at q1
  case h_2 => cases q1
  rename_i h0
  split at q1
  case h_2 => cases q1
  rename_i hle
  obtain ⟨he, hs⟩ := h2
  obtain ⟨vi, hi', rfl⟩ := q2
  obtain ⟨m, hm⟩ := hs.len
  have p0 := nonneg_ok hf (iv_of hi') h0
  obtain ⟨j, rfl⟩ := nat_of_nonneg p0
  have hjm : j ≤ m := by
    have hl := iv_of (ev_len he hm)
    unfold leOk at hle
    split at hle
    · rename_i hq
      have := leStep_ok hf hl (iv_of hi') hq
      simpa using this
    · have := ltOk_ok hf (iv_of hi') hl h0 hle
      have : (j : Int) < (m : Int) := this
      omega
  have hb : ∀ c, j ≤ c → Nat.ble j c = true := fun c hc => by rw [Nat.ble_eq]; exact hc
  rcases hs.form with (rfl | rfl) | ⟨g, o', l, c, ks, lim, rfl, hlc, _, _⟩
  · cases hm
    have hj0 : j = 0 := by omega
    subst hj0
    refine .val q1 (x := .lit (.slice none 0 0)) (fun K' => ?_) ⟨_, 0, 0, he, hs, rfl, hi', Nat.le_refl _, rfl⟩ hh
    simp only [opK, ho]
    rw [h3]
    simp only [evOK]
    rw [q3]
    simp only [sliceOpK, hu, hsz, sliceK, optK, boundK]
    try rfl
  · cases hm
    have hj0 : j = 0 := by omega
    subst hj0
    refine .val q1 (x := .eslc) (fun K' => ?_) ⟨_, 0, 0, he, hs, rfl, hi', Nat.le_refl _, rfl⟩ hh
    simp only [opK, ho]
    rw [h3]
    simp only [evOK]
    rw [q3]
    simp only [sliceOpK, hu, hsz, sliceK, optK, boundK]
    try rfl
  · have hlm := Option.some.inj hm
    subst hlm
    refine .val q1 (x := .lit (.slice (some ⟨g, o', none⟩) j c)) (fun K' => ?_) ⟨_, l, j, he, hs, rfl, hi', hjm, rfl⟩ hh
    simp only [opK, ho]
    rw [h3]
    simp only [evOK]
    rw [q3]
    simp only [sliceOpK, hu, hsz, sliceK, optK, boundK, hb c (by omega)]

theorem sop_len {c : Go.Call} {t : TypeId} {x : Operand} (hf : FxOk G σ fx) (ht : TR G KT σ β tm ft) (hh : HR G KT σ β hp nb st) (ho : o.op = .call c) (hc : c.callee = .builtin .len) (h0 : c.argTypes[0]? = some t) (ha : c.args.toList = [x])
    (h : sEv fx tm x (fun v => match und P t, v with
        | some .string, .str e => K (.int .i64 (.len e)) hp nb
        | some (.slice _), .sl _ e => K (.int .i64 (.len e)) hp nb
        | some (.slice _), .sub _ _ h => K (.int .i64 h) hp nb
        | some (.slice _), .cpy _ _ e => K (.int .i64 (.len e)) hp nb
        | _, _ => false) = true) : OpGoes P G KT σ β o ft st K := by
  obtain ⟨s, v, h1, h2, h3⟩ := sEv_true hf ht h
  have hop : ∀ K' : ONext → St → Bool, opK P G o ft st K' = builtinK P G st .len c.argTypes [v] K' := fun K' => by
    simp only [opK, ho, hc, ha]
    show evK ft x (fun a => builtinK P G st .len c.argTypes [a] K') = _
    rw [h3]
  split at h1
  · rename_i e hu
    obtain ⟨l, he, rfl⟩ := h2
    refine .val h1 (x := .int .i64 (Int.ofNat l.length)) (fun K' => ?_) ⟨_, ev_len (n := l.length) he rfl, rfl⟩ hh
    rw [hop]; simp only [builtinK, h0, hu, lenK_eq, Nat.zero_add]
  · rename_i e te e' hu
    obtain ⟨he, hs⟩ := h2
    rcases hs.form with (rfl | rfl) | ⟨g, o', l, c, ks, lim, rfl, _⟩
    · refine .val h1 (x := .int .i64 (Int.ofNat 0)) (fun K' => ?_) ⟨_, ev_len (n := 0) he rfl, rfl⟩ hh
      rw [hop]; simp only [builtinK, h0, hu]
    · refine .val h1 (x := .int .i64 (Int.ofNat 0)) (fun K' => ?_) ⟨_, ev_len (n := 0) he rfl, rfl⟩ hh
      rw [hop]; simp only [builtinK, h0, hu]
      rfl
    · refine .val h1 (x := .int .i64 (Int.ofNat l)) (fun K' => ?_) ⟨_, ev_len (n := l) he rfl, rfl⟩ hh
      rw [hop]; simp only [builtinK, h0, hu]
  · rename_i e te e' q hu
    obtain ⟨y, n, m, he, hs, hn, hq, hm, rfl⟩ := h2
    rcases hs.form with (rfl | rfl) | ⟨g, o', l, c, ks, lim, rfl, _⟩
    · refine .val h1 (x := .int .i64 (Int.ofNat m)) (fun K' => ?_) ⟨_, hq, rfl⟩ hh
      rw [hop]; simp only [cutSl, builtinK, h0, hu]
    · have hm0 : m = 0 := by cases hn; omega
      subst hm0
      refine .val h1 (x := .int .i64 (Int.ofNat 0)) (fun K' => ?_) ⟨_, hq, rfl⟩ hh
      rw [hop]; simp only [cutSl, builtinK, h0, hu]
      rfl
    · refine .val h1 (x := .int .i64 (Int.ofNat m)) (fun K' => ?_) ⟨_, hq, rfl⟩ hh
      rw [hop]; simp only [cutSl, builtinK, h0, hu]
  · rename_i e te b e' hu
    obtain ⟨id, y, n, lb, ex, hb, he, hs, hn, rfl⟩ := h2
    refine .val h1 (x := .int .i64 (Int.ofNat n)) (fun K' => ?_) ⟨_, ev_len he hn, rfl⟩ hh
    rw [hop]; simp only [builtinK, h0, hu]
  · cases h1
end
end
end Go.Sym
