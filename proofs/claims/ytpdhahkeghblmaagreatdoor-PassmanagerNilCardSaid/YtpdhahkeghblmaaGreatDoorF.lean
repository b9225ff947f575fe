/- Closed facts that a row asks of a great cut, by quicker ways: names by one pass, a closure by a set of bits, types and functions by tries. -/
import Derived.Test.YtpdhahkeghblmaaGreatDoorShd4
import GoSem.ClaimJoined
namespace Go.Shd
noncomputable section

theorem tfunc_eq (P : Program) (f : FuncId) : tfunc P f = P.funcs[f]? := by
  unfold tfunc funcsT
  have h : (T.ofList P.funcs.toList.length P.funcs.toList).get (key f) = P.funcs.toList[f]? := ofList_get _ _
  simpa using h

/-- A type's row: by the trie, or as the model has it. -/
def infoT (P : Program) (t : TypeId) : Option TypeInfo := match tinfo P t with | some i => some i | none => P.info? t
theorem infoT_eq (P : Program) (t : TypeId) : infoT P t = P.info? t := by
  unfold infoT
  cases h : tinfo P t with
  | none => rfl
  | some i => exact (tinfo_some P h).symm
def undT (P : Program) (t : TypeId) : Option TypeDesc :=
  match infoT P t with
  | some { desc := .named _ u, .. } => (infoT P u).map (·.desc)
  | some i => some i.desc
  | none => none
theorem undT_eq (P : Program) (t : TypeId) : undT P t = P.underlying t := by
  unfold undT Program.underlying
  simp only [infoT_eq]
  rfl

/-! ### One function of a name -/
def onlyAt : List Func → Nat → Nat → String → Bool
  | [], _, _, _ => true
  | fn :: l, k, i, s => (match fn.name == s with | true => Nat.beq k i | false => true) && onlyAt l (k + 1) i s

theorem onlyAt_true {i : Nat} {s : String} : ∀ {l : List Func} {k : Nat}, onlyAt l k i s = true → ∀ j fn, l[j]? = some fn → (fn.name == s) = true → k + j = i
  | [], _, _, j, fn, hj, _ => by simp at hj
  | a :: l, k, h, j, fn, hj, hn => by
    simp only [onlyAt, Bool.and_eq_true] at h
    cases j with
    | zero =>
      simp only [List.getElem?_cons_zero, Option.some.injEq] at hj
      subst hj
      have := h.1
      rw [hn] at this
      exact Nat.eq_of_beq_eq_true this
    | succ j =>
      simp only [List.getElem?_cons_succ] at hj
      have := onlyAt_true h.2 j fn hj hn
      omega

theorem funcNamed_of {P : Program} {i : Nat} {fn : Func} {s : String} (hf : P.funcs[i]? = some fn) (hn : (fn.name == s) = true) (h : onlyAt P.funcs.toList 0 i s = true) : P.funcNamed s = some i := by
  have hlt : i < P.funcs.size := (Array.getElem?_eq_some_iff.1 hf).1
  have hp : ∀ j ∈ List.range P.funcs.size, ((P.funcs[j]?).any (·.name == s)) = (j == i) := by
    intro j _
    rw [Bool.eq_iff_iff]
    constructor
    · intro hj
      cases hfj : P.funcs[j]? with
      | none => simp [hfj] at hj
      | some g =>
        rw [hfj] at hj
        have := onlyAt_true h j g (by simpa using hfj) (by simpa using hj)
        simp; omega
    · intro hj
      have : j = i := by simpa using hj
      subst this
      rw [hf]; simpa using hn
  unfold Program.funcNamed
  rw [List.filter_congr hp, List.filter_beq, List.Nodup.count (List.nodup_range)]
  simp [hlt]

/-! ### The closure of a function -/
def leads (P : Program) (f : Nat) : List Nat := match tfunc P f with | some g => P.leadsTo g | none => []

def cloK (P : Program) : Nat → List Nat → Nat → List Nat → (List Nat → Bool) → Bool
  | 0, _, _, _, _ => false
  | _ + 1, [], _, seen, K => K seen.reverse
  | n + 1, f :: todo, bits, seen, K => natK f fun f => match Nat.testBit bits f with
    | true => cloK P n todo bits seen K
    | false => natK (Nat.lor bits (Nat.shiftLeft 1 f)) fun b => cloK P n (leads P f ++ todo) b (f :: seen) K

theorem cloK_true {P : Program} {K : List Nat → Bool} : ∀ {m : Nat} {todo : List Nat} {bits : Nat} {seen : List Nat}, cloK P m todo bits seen K = true → (∀ f, bits.testBit f = seen.contains f) → ∀ n, m ≤ n → K (P.closureVia n todo seen) = true
  | 0, _, _, _, h, _, _, _ => by simp [cloK] at h
  | m + 1, [], bits, seen, h, _, n, _ => by
    cases n with
    | zero => exact h
    | succ n => exact h
  | m + 1, f :: todo, bits, seen, h, hb, n, hn => by
    cases n with
    | zero => omega
    | succ n =>
      simp only [cloK, natK_eq] at h
      unfold Program.closureVia
      rw [← hb f]
      cases ht : bits.testBit f with
      | true =>
        rw [ht] at h
        simp only [if_true]
        exact cloK_true h hb n (by omega)
      | false =>
        rw [ht] at h
        simp only [Bool.false_eq_true, if_false]
        have hl : leads P f = (P.funcs[f]?).elim [] P.leadsTo := by
          unfold leads; rw [tfunc_eq]; cases P.funcs[f]? <;> rfl
        rw [← hl]
        refine cloK_true h (fun g => ?_) n (by omega)
        show (bits ||| 1 <<< f).testBit g = _
        rw [Nat.testBit_or, hb g, Nat.one_shiftLeft, Nat.testBit_two_pow, List.contains_cons]
        rw [Bool.or_comm]
        congr 1
        by_cases e : f = g
        · subst e; simp
        · rw [decide_eq_false e]; symm; simpa using fun h => e h.symm

def fuelOk (P : Program) (m : Nat) : Bool := Nat.ble m (1 + (P.funcs.toList.map fun g => (P.leadsTo g).length + 1).sum)

def closeK (P : Program) (m f : Nat) (K : List Nat → Bool) : Bool :=
  fuelOk P m && cloK P m [f] 0 [] K

theorem closeK_true {P : Program} {m f : Nat} {K : List Nat → Bool} (h : closeK P m f K = true) : K (P.closure f) = true := by
  simp only [closeK, Bool.and_eq_true] at h
  exact cloK_true h.2 (fun g => by rw [Nat.zero_testBit]; rfl) _ (Nat.le_of_ble_eq_true h.1)

/-! ### What a row asks of the closure -/
def inPlaceT (P : Program) (L : List Nat) : List String := L.filterMap fun g => (tfunc P g).bind fun fn => if fn.ours || fn.body.isNone || fn.name == "runtime.NumGoroutine" then some fn.name else none
def unfollowedT (P : Program) (L : List Nat) : Bool := L.any fun g => (tfunc P g).any fun fn => match fn.body with | some c => c.unfollowed | none => entryCalls fn
def varsNamedT (P : Program) (L : List Nat) : List String :=
  ((((L).flatMap fun g => ((tfunc P g).bind (·.body)).elim [] Code.globalsNamed).eraseDups).filterMap (fun g => (P.globals[g]?).map (·.name)) ++
   L.filterMap fun g => (tfunc P g).bind fun fn => if fn.body.isNone then entryReads.lookup fn.name else none).eraseDups

/-- The closure as a list that is written out. -/
theorem closure_of {P : Program} {m f : Nat} {L : List Nat} (h : cloK P m [f] 0 [] (fun l => l == L) = true) (hs : fuelOk P m = true) : P.closure f = L := by
  have := closeK_true (P := P) (m := m) (f := f) (K := fun l => l == L) (by rw [closeK, hs]; exact h)
  simpa using this

theorem inPlace_of {P : Program} {f : Nat} {L : List Nat} {ip : List String} (hc : P.closure f = L) (h : (inPlaceT P L == ip) = true) : P.inPlace f = ip := by
  rw [← beq_iff_eq.1 h, ← hc]; unfold Program.inPlace inPlaceT
  simp only [tfunc_eq]
theorem unfollowed_of {P : Program} {f : Nat} {L : List Nat} (hc : P.closure f = L) (h : unfollowedT P L = true) : P.unfollowed f = true := by
  rw [← h, ← hc]; unfold Program.unfollowed unfollowedT
  simp only [tfunc_eq]; rfl
theorem recurses_of {P : Program} {f : Nat} (h : P.unfollowed f = true) : P.recurses f = true := by
  unfold Program.recurses; rw [h]; rfl
theorem varsNamed_of {P : Program} {f : Nat} {L : List Nat} {vn : List String} (hc : P.closure f = L) (h : (varsNamedT P L == vn) = true) : P.varsNamed f = vn := by
  rw [← beq_iff_eq.1 h, ← hc]; unfold Program.varsNamed varsNamedT
  simp only [tfunc_eq]

def closedK (P : Program) (m f : Nat) (ip vn : List String) : Bool :=
  closeK P m f fun L => (inPlaceT P L == ip) && (unfollowedT P L && (varsNamedT P L == vn))

theorem closedK_true {P : Program} {m f : Nat} {ip vn : List String} (h : closedK P m f ip vn = true) : P.inPlace f = ip ∧ P.unfollowed f = true ∧ P.recurses f = true ∧ P.varsNamed f = vn := by
  have h := closeK_true h
  simp only [Bool.and_eq_true, beq_iff_eq] at h
  obtain ⟨h1, h2, h3⟩ := h
  have u : P.unfollowed f = true := by
    rw [← h2]; unfold Program.unfollowed unfollowedT
    simp only [tfunc_eq]; rfl
  refine ⟨?_, u, ?_, ?_⟩
  · rw [← h1]; unfold Program.inPlace inPlaceT
    simp only [tfunc_eq]
  · unfold Program.recurses; rw [u]; rfl
  · rw [← h3]; unfold Program.varsNamed varsNamedT
    simp only [tfunc_eq]

/-! ### What a row asks of the types -/
def isVarT (P : Program) (t : TypeId) : Bool := decide (t < P.types.size) && kindOk (undT P t)
def cellsT (P : Program) (t : TypeId) : Nat := ((infoT P t).map (·.size)).getD 0
def rowFineT (P : Program) (t : TypeId) : Bool :=
  !isVarT P t ||
  match undT P t with
  | some (.struct fs) => fs.toList.all (fun f => isVarT P f.type) && cellsT P t == (fs.toList.map fun f => cellsT P f.type).sum &&
      (List.range fs.toList.length).all fun j => match fs.toList[j]? with | some f => f.offset == ((fs.toList.take j).map fun f => cellsT P f.type).sum | none => true
  | some (.array n e) => isVarT P e && cellsT P t == n * cellsT P e
  | some (.pointer e) => isVarT P e && cellsT P t == 1
  | some (.slice e) => isVarT P e && cellsT P t == 1
  | _ => cellsT P t == 1
def laidOutT (P : Program) : Bool :=
  (List.range P.types.size).all (rowFineT P) && P.globals.toList.all (fun g => decide (g.type < P.types.size)) && P.funcs.toList.all (fun f => f.params.toList.all fun t => decide (t < P.types.size))
theorem isVarT_eq (P : Program) (t : TypeId) : isVarT P t = isVar P t := by unfold isVarT isVar; rw [undT_eq]
theorem cellsT_eq (P : Program) (t : TypeId) : cellsT P t = P.cellsOf t := by unfold cellsT Program.cellsOf; rw [infoT_eq]
theorem rowFineT_eq (P : Program) (t : TypeId) : rowFineT P t = rowFine P t := by
  unfold rowFineT rowFine
  simp only [isVarT_eq, cellsT_eq, undT_eq]
  rfl
theorem laidOutT_eq (P : Program) : laidOutT P = laidOutB P := by
  unfold laidOutT laidOutB
  rw [show rowFineT P = rowFine P from funext (rowFineT_eq P), Array.all_toList, Array.all_toList]
  simp only [Array.all_toList]
def mapsRowedT (P : Program) : Bool := (List.range P.types.size).all fun t => match undT P t with | some (.map _ e) => decide (e < P.types.size) | _ => true
theorem mapsRowedT_eq (P : Program) : mapsRowedT P = mapsRowed P := by unfold mapsRowedT mapsRowed; simp only [undT_eq]; rfl
def plainKeysT (P : Program) : Bool :=
  (List.range P.types.size).all fun t => match undT P t with
    | some (.map k _) => (match undT P k with | some (.array _ _) | some (.struct _) => false | _ => true)
    | _ => true
theorem plainKeysT_eq (P : Program) : plainKeysT P = P.plainKeys := by unfold plainKeysT Program.plainKeys; simp only [undT_eq]; rfl
/-! ### What a row asks of the functions -/
def stopsHeardT (P : Program) : Bool := P.funcs.toList.all fun fn => (Stop.rowOf fn).isNone || !fn.norace
theorem stopsHeardT_eq (P : Program) : stopsHeardT P = P.stopsHeard := by unfold stopsHeardT Program.stopsHeard; rw [Array.all_toList]
def laysLaterT (P : Program) : Bool := P.funcs.toList.any fun fn => fn.body.isNone && (fn.name == "runtime.SetFinalizer" || fn.name == "runtime.AddCleanup" || fn.origin == "runtime.AddCleanup")
theorem laysLaterT_eq (P : Program) : laysLaterT P = P.laysLater := by unfold laysLaterT Program.laysLater; rw [Array.any_toList]
theorem andT {a b : Bool} (ha : a = true) (hb : b = true) : (a && b) = true := by rw [ha, hb]; rfl
end
end Go.Shd
