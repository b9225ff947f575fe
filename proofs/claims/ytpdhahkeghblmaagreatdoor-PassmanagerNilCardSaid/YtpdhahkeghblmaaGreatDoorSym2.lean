/- Runs with unknowns: regions, calls, drawn orders, loops: a run; it is sound. -/
import Derived.Test.YtpdhahkeghblmaaGreatDoorSym1
set_option linter.unusedSimpArgs false
set_option linter.unusedVariables false
/- Operations with unknowns are sound: stores, literals, a copy of a slice; all of them together. -/
namespace Go.Sym
open Go Go.Shd
noncomputable section
section
variable {P : Program} {G : Globals} {KT : KTab} {σ : List AV} {β : List Nat} {fx : Fx} {tm : T SV} {ft : T AV} {hp : T SB} {nb : Nat} {st : St} {o : Oper} {K : SK}

theorem leaf_get {α : Type} (k : Key) : (T.leaf : T α).get k = none := by cases k <;> rfl

/-- A block of the call's own written over. -/
theorem HR.store {b id : Nat} {e : TypeId} {l l' : List SV} {cs' : List AV} (hh : HR G KT σ β hp nb st) (hl : hp.get (key b) = some (.cells e l)) (hb : β[b]? = some id) (hr : RSs G KT σ β l' cs') :
    HR G KT σ β (T.set (some (.cells e l')) (key b) hp) nb ⟨T.set (some (.cells cs' e (0, 0) id none)) (key id) st.heap, st.grps, st.next⟩ := by
  refine ⟨hh.len, hh.grps, hh.lt, fun b' sb hb' => ?_, fun b1 b2 s1 s2 i h1 h2 h3 h4 => ?_⟩
  · rw [T.get_set] at hb'
    split at hb'
    · rename_i e1
      subst e1
      cases hb'
      exact ⟨id, hb, cs', by rw [T.get_set, if_pos rfl], hr⟩
    · rename_i e1
      obtain ⟨id', q1, q2⟩ := hh.blk _ _ hb'
      have hne : id' ≠ id := fun e2 => e1 (hh.inj b' b _ _ id hb' hl (by rw [← e2]; exact q1) hb)
      refine ⟨id', q1, ?_⟩
      cases sb with
      | cells e l => obtain ⟨cs, r1, r2⟩ := q2; exact ⟨cs, by rw [T.get_set, if_neg hne]; exact r1, r2⟩
      | copy e => obtain ⟨cs, t, g, cap, y, n, r1, r2⟩ := q2; exact ⟨cs, t, g, cap, y, n, by rw [T.get_set, if_neg hne]; exact r1, r2⟩
  · have back : ∀ {b' : Nat} {s : SB}, (T.set (some (.cells e l')) (key b) hp).get (key b') = some s → ∃ s', hp.get (key b') = some s' := by
      intro b' s h
      rw [T.get_set] at h
      split at h
      · rename_i e1; subst e1; exact ⟨_, hl⟩
      · exact ⟨_, h⟩
    obtain ⟨s1', h1'⟩ := back h1
    obtain ⟨s2', h2'⟩ := back h2
    exact hh.inj b1 b2 _ _ i h1' h2' h3 h4

theorem frozen_no (o n : Nat) : frozenIn (0, 0) o n = false := by
  unfold frozenIn
  have : Nat.blt o 0 = false := by cases o <;> rfl
  simp only [this, Bool.and_false]

theorem sop_store {t : TypeId} {a x : Operand} (hf : FxOk G σ fx) (ht : TR G KT σ β tm ft) (hh : HR G KT σ β hp nb st) (ho : o.op = .store t a x)
    (h : sEv fx tm a (fun a => sEv fx tm x fun x => match a with
    | .ptr b off => match sizeOf? P t with
      | some (n + 1) => cellsS x fun vs => match Nat.beq vs.length (n + 1) with
        | true => match hp.get (key b) with
          | some (.cells e l) => putK off vs l fun l => T.setK (some (.cells e l)) (key b) hp fun hp => K (.lit aundef) hp nb
          | _ => false
        | false => false
      | _ => false
    | _ => false) = true) : OpGoes P G KT σ β o ft st K := by
  obtain ⟨s, v, h1, h2, h3⟩ := sEv_true hf ht h
  obtain ⟨s', v', q1, q2, q3⟩ := sEv_true hf ht h1
  split at q1
  case h_2 => cases q1
  rename_i b off
  split at q1
  case h_2 => cases q1
  rename_i n hn
  obtain ⟨vs, r1, r2, r3, r4⟩ := cellsS_true q2 q1
  split at r1
  case h_2 => cases r1
  rename_i hlen
  split at r1
  case h_2 => cases r1
  rename_i e l hl
  obtain ⟨p1, p2⟩ := putK_true' _ _ _ _ r1
  rw [T.setK_eq] at p2
  obtain ⟨id, hb, rfl⟩ := h2
  obtain ⟨id', hb', cs, hc, hr⟩ := hh.blk _ _ hl
  rw [hb] at hb'; cases hb'
  refine ⟨_, _, _, β, aundef, ⟨T.set (some (.cells (over off (cellsOf v') cs) e (0, 0) id none)) (key id) st.heap, st.grps, st.next⟩, p2, fun K' => ?_, rfl, hh.store hl hb (hr.over r2 off), ExtN.refl _, fun h => (by simp [isPure, ho, kindOf] at h)⟩
  simp only [opK, ho]
  rw [h3, q3]
  obtain ⟨hpp, g, nn⟩ := st
  have hg : g = .leaf := hh.grps
  subst hg
  have hlen' : (cellsOf v').length = vs.length := r2.len
  simp only at hc
  simp only [storeK, hn, hlen', hlen, r3, writeK, hc, frozen_no, aloneK, leaf_get, T.setK_eq]
  rw [putK_eq' _ _ _ _ (by rw [hr.len, hlen']; exact p1)]

theorem sFill_true (hf : FxOk G σ fx) (ht : TR G KT σ β tm ft) {place : Nat → Option (Nat × Nat)} : ∀ {parts : List (Nat × Operand)} {cs : List SV} {xs : List AV} {K : List SV → Bool}, sFill fx place tm parts cs K = true → RSs G KT σ β cs xs →
    ∃ cs' xs', K cs' = true ∧ RSs G KT σ β cs' xs' ∧ ∀ K' : List AV → Bool, fillK place ft parts xs K' = K' xs'
  | [], cs, xs, K, h, hr => ⟨cs, xs, h, hr, fun _ => rfl⟩
  | (i, x) :: l, cs, xs, K, h, hr => by
    simp only [sFill] at h
    obtain ⟨s, v, h1, h2, h3⟩ := sEv_true hf ht h
    obtain ⟨vs, r1, r2, r3, r4⟩ := cellsS_true h2 h1
    split at r1
    case h_2 => cases r1
    rename_i off size hp
    split at r1
    case h_2 => cases r1
    rename_i hlen
    obtain ⟨p1, p2⟩ := putK_true' _ _ _ _ r1
    obtain ⟨cs', xs', q1, q2, q3⟩ := sFill_true hf ht p2 (hr.over r2 off)
    refine ⟨cs', xs', q1, q2, fun K' => ?_⟩
    have hlen' : (cellsOf v).length = vs.length := r2.len
    simp only [fillK]
    rw [h3]
    split
    · exact absurd rfl (r4 _)
    · simp only [hp, hlen', hlen]
      rw [putK_eq' _ _ _ _ (by rw [hr.len, hlen']; exact p1)]
      exact q3 K'

theorem sop_build {t : TypeId} {parts : Array (Nat × Operand)} (hf : FxOk G σ fx) (ht : TR G KT σ β tm ft) (hh : HR G KT σ β hp nb st) (ho : o.op = .build t parts)
    (h : (match zeroOf P t with
    | some z => match und P t with
      | some (.struct fs) => match placesL P fs.toList with
        | some ps => sFill fx (fun i => ps[i]?) tm parts.toList (z.map svOf) fun cs => K (.agg cs) hp nb
        | none => false
      | _ => false
    | none => false) = true) : OpGoes P G KT σ β o ft st K := by
  split at h
  case h_2 => cases h
  rename_i z hz
  split at h
  case h_2 => cases h
  rename_i fs hu
  split at h
  case h_2 => cases h
  rename_i ps hps
  obtain ⟨cs', xs', q1, q2, q3⟩ := sFill_true hf ht h (svOfs_RS z)
  refine .val q1 (x := .agg xs') (fun K' => ?_) ⟨xs', rfl, q2⟩ hh
  simp only [opK, ho, hz, hu, hps]
  exact q3 _

theorem sop_buildSlice {t : TypeId} (hh : HR G KT σ β hp nb st) (ho : o.op = .buildSlice t 0 ⟨[]⟩)
    (h : (match und P t with
    | some (.slice e) => match sizeOf? P e, zeroOf P e with
      | some n, some z => match Nat.beq z.length n with
        | true => T.setK (some (.cells e [])) (key nb) hp fun hp => natK (Nat.succ nb) fun m => K (.em nb) hp m
        | false => false
      | _, _ => false
    | _ => false) = true) : OpGoes P G KT σ β o ft st K := by
  split at h
  case h_2 => cases h
  rename_i e hu
  split at h
  case h_2 => cases h
  rename_i n z hn hz
  split at h
  case h_2 => cases h
  rename_i hlen
  rw [T.setK_eq, natK_eq] at h
  have hl : RSs G KT σ β [] [] := rfl
  refine ⟨_, _, _, β ++ [st.next], .slc st.next 0 0 0 none, _, h, fun K' => ?_, ⟨st.next, by rw [← hh.len]; simp, rfl⟩, hh.new hl, ⟨_, rfl⟩, fun h => (by simp [isPure, ho, kindOf] at h)⟩
  have h0 : Nat.ble (Nat.mul 0 n) 100000 = true := by rw [show Nat.mul 0 n = 0 from Nat.zero_mul n]; rfl
  simp only [opK, ho, hu, hn, hz, h0, hlen, Bool.and_self, repK, fillK]
  obtain ⟨h, g, m⟩ := st
  simp only [newRowK, T.setK_eq, natK_eq]

/-- A block that is known under a new number. -/
theorem HR.add {sb : SB} {id : Nat} {st' : St} (hh : HR G KT σ β hp nb st) (hg : st'.grps = .leaf) (hn : st.next ≤ st'.next) (hid : id < st'.next) (hk : ∀ id', id' ≠ id → st'.heap.get (key id') = st.heap.get (key id'))
    (hno : ∀ b s, hp.get (key b) = some s → β[b]? ≠ some id) (hb : BRel G KT σ (β ++ [id]) st' id sb) : HR G KT σ (β ++ [id]) (T.set (some sb) (key nb) hp) (nb + 1) st' := by
  have hx : ExtN β (β ++ [id]) := ⟨_, rfl⟩
  have hnew : (β ++ [id])[nb]? = some id := by rw [← hh.len]; simp
  have old : ∀ {b : Nat} {s : SB}, hp.get (key b) = some s → ∀ {i : Nat}, (β ++ [id])[b]? = some i → β[b]? = some i ∧ i ≠ id := by
    intro b s hs i hi
    obtain ⟨i', q1, _⟩ := hh.blk b s hs
    have := hx.get q1
    rw [this] at hi; cases hi
    exact ⟨q1, fun e => hno b s hs (by rw [← e]; exact q1)⟩
  refine ⟨by simp [hh.len], hg, fun i hi => ?_, fun b s hs => ?_, fun b b' s s' i h1 h2 h3 h4 => ?_⟩
  · rcases List.mem_append.1 hi with hi | hi
    · have := hh.lt i hi; omega
    · simp at hi; omega
  · rw [T.get_set] at hs
    split at hs
    · rename_i e1; subst e1; cases hs
      exact ⟨id, hnew, hb⟩
    · obtain ⟨i, q1, q2⟩ := hh.blk b s hs
      have hne : i ≠ id := (old hs (hx.get q1)).2
      refine ⟨i, hx.get q1, ?_⟩
      cases s with
      | cells e l => obtain ⟨cs, r1, r2⟩ := q2; exact ⟨cs, by rw [hk _ hne]; exact r1, RSs.ext (Ext.refl _) hx _ _ r2⟩
      | copy e => obtain ⟨cs, t, g, cap, y, n, r1, r2⟩ := q2; exact ⟨cs, t, g, cap, y, n, by rw [hk _ hne]; exact r1, r2⟩
  · rw [T.get_set] at h1 h2
    split at h1
    · rename_i e1; subst e1
      rw [hnew] at h3; cases h3
      split at h2
      · rename_i e2; exact e2.symm
      · exact absurd rfl (old h2 h4).2
    · split at h2
      · rename_i e2; subst e2
        rw [hnew] at h4; cases h4
        exact absurd rfl (old h1 h3).2
      · exact hh.inj b b' _ _ i h1 h2 (old h1 h3).1 (old h2 h4).1

theorem HR.drop {b : Nat} (hh : HR G KT σ β hp nb st) : HR G KT σ β (T.set none (key b) hp) nb st := by
  have back : ∀ {b' : Nat} {s : SB}, (T.set none (key b) hp).get (key b') = some s → hp.get (key b') = some s ∧ b' ≠ b := by
    intro b' s h
    rw [T.get_set] at h
    split at h
    · cases h
    · rename_i e1; exact ⟨h, e1⟩
  exact ⟨hh.len, hh.grps, hh.lt, fun b' s h => hh.blk _ _ (back h).1, fun b1 b2 s1 s2 i h1 h2 => hh.inj b1 b2 s1 s2 i (back h1).1 (back h2).1⟩

theorem sop_append {c : Go.Call} {t u : TypeId} {s x : Operand} (hf : FxOk G σ fx) (ht : TR G KT σ β tm ft) (hh : HR G KT σ β hp nb st) (ho : o.op = .call c) (hc : c.callee = .builtin .append) (h0 : c.argTypes.toList = [t, u]) (ha : c.args.toList = [s, x])
    (h : sEv fx tm s (fun s => sEv fx tm x fun x => match und P u, und P t with
        | some (.slice _), some (.slice el) => match s, x with
          | .em b, .sl te e => match sizeOf? P el, bytes? P el, zeroOf P el, KT.get (key te) with
            | some 1, some (by' + 1), some z, some ([_], lim) => match Nat.beq z.length 1 with
              | true => match Nat.ble (Nat.mul lim (by' + 1)) 140737488355328 with
                | true => match hp.get (key b) with
                  | some (.cells _ []) => T.setK none (key b) hp fun hp => T.setK (some (.copy e)) (key nb) hp fun hp => natK (Nat.succ nb) fun m => K (.cpy te nb e) hp m
                  | _ => false
                | false => false
              | false => false
            | _, _, _, _ => false
          | _, _ => false
        | _, _ => false) = true) : OpGoes P G KT σ β o ft st K := by
  obtain ⟨s1, v, h1, h2, h3⟩ := sEv_true hf ht h
  obtain ⟨s2, v', q1, q2, q3⟩ := sEv_true hf ht h1
  split at q1
  case h_2 => cases q1
  rename_i uel el hu hut
  split at q1
  case h_2 => cases q1
  rename_i b te e
  split at q1
  case h_2 => cases q1
  rename_i by' z ck lim hsz hby hz hk
  split at q1
  case h_2 => cases q1
  rename_i hzl
  split at q1
  case h_2 => cases q1
  rename_i hlim
  split at q1
  case h_2 => cases q1
  rename_i e0 hb0
  rw [T.setK_eq, T.setK_eq, natK_eq] at q1
  obtain ⟨id, hb, rfl⟩ := h2
  obtain ⟨he, hs⟩ := q2
  obtain ⟨id', hb', cs0, hc0, hr0⟩ := hh.blk _ _ hb0
  rw [hb] at hb'; cases hb'
  simp only [RSs] at hr0
  subst hr0
  have hop : ∀ K' : ONext → St → Bool, opK P G o ft st K' = appendK P G st t (.slc id 0 0 0 none) v' fun v st => K' (.val v) st := fun K' => by
    simp only [opK, ho, hc, ha]
    show evK ft s (fun a => evK ft x fun b => builtinK P G st .append c.argTypes [a, b] K') = _
    rw [h3, q3]
    simp only [builtinK, h0, hu]
  have hno : ∀ b' s', (T.set none (key b) hp).get (key b') = some s' → β[b']? ≠ some id := by
    intro b' s' h' hb'
    rw [T.get_set] at h'
    split at h'
    · cases h'
    · rename_i hne
      exact hne (hh.inj b' b _ _ id h' hb0 hb' hb)
  have hpure : isPure o = true → False := by
    intro h
    have hk : kindOf o.op = .loud := by
      rw [ho]
      cases c
      simp only at hc
      subst hc
      rfl
    unfold isPure at h
    rw [hk] at h
    cases h
  have empty : ∀ y, ev G σ e = some y → Sl G KT te y → lenAt y = some 0 → (∀ K' : ONext → St → Bool, opK P G o ft st K' = K' (.val (.slc id 0 0 0 none)) st) → OpGoes P G KT σ β o ft st K := by
    intro y hy hsy hl hK
    refine ⟨_, _, _, β ++ [id], .slc id 0 0 0 none, st, q1, hK, ⟨id, y, 0, 0, none, by rw [← hh.len]; simp, hy, hsy, hl, rfl⟩, ?_, ⟨_, rfl⟩, fun h => (hpure h).elim⟩
    exact (hh.drop (b := b)).add hh.grps (Nat.le_refl _) (hh.lt id (List.mem_of_getElem? hb)) (fun _ _ => rfl) hno ⟨[], e0, id, none, y, 0, hc0, hy, hl, rfl, fun j hj => by omega⟩
  rcases hs.form with (rfl | rfl) | ⟨g, o', l, c', ks, lim', rfl, hlc, hk', hll⟩
  · refine empty _ he hs rfl (fun K' => ?_)
    rw [hop]
    simp only [appendK, hut, hsz, hby, hz, hzl, lenOfK, natK_eq]
    rfl
  · refine empty _ he hs rfl (fun K' => ?_)
    rw [hop]
    simp only [appendK, hut, hsz, hby, hz, hzl, lenOfK, natK_eq]
    rfl
  · rw [hk] at hk'; cases hk'
    cases l with
    | zero =>
      refine empty _ he hs rfl (fun K' => ?_)
      rw [hop]
      simp only [appendK, hut, hsz, hby, hz, hzl, lenOfK, natK_eq]
      rfl
    | succ l =>
      have cell : ∀ j, j < l + 1 → ∃ y, cellAt G (.lit (.slice (some ⟨g, o', none⟩) (l + 1) c')) j = some y := by
        intro j hj
        rcases hs 1 with h | ⟨g', o'', l', c'', ks', lim'', h1, _, h3, _, h5⟩
        · rcases h with h | h <;> cases h
        · rw [hk] at h3; cases h3
          cases h1
          obtain ⟨y, r1, _⟩ := h5 j hj 0 ck rfl
          exact ⟨y, by simpa using r1⟩
      obtain ⟨y0, hy0⟩ := cell 0 (by omega)
      obtain ⟨cs, hcs, _⟩ := Option.bind_eq_some_iff.1 (show (G g).bind (fun cs => cs[o' + 0]?) = some y0 from hy0)
      have at' : ∀ j, j < l + 1 → ∃ y, cs[o' + j]? = some y := by
        intro j hj
        obtain ⟨y, hy⟩ := cell j hj
        obtain ⟨cs', r1, r2⟩ := Option.bind_eq_some_iff.1 (show (G g).bind (fun cs => cs[o' + j]?) = some y from hy)
        rw [hcs] at r1; cases r1
        exact ⟨y, r2⟩
      have hlen : o' + (l + 1) ≤ cs.length := by
        obtain ⟨y, hy⟩ := at' l (by omega)
        have := (List.getElem?_eq_some_iff.1 hy).1
        omega
      have hlimit : Nat.ble (Nat.mul (0 + (l + 1)) (by' + 1)) 140737488355328 = true := by
        rw [Nat.ble_eq] at hlim ⊢
        refine Nat.le_trans ?_ hlim
        rw [Nat.zero_add]
        exact Nat.mul_le_mul_right _ hll
      refine ⟨_, _, _, β ++ [st.next], .slc st.next 0 (l + 1) (l + 1) (some st.next), ⟨T.set (some (.cells ((cs.drop o').take (l + 1)) el (0, 0) st.next (some (l + 1, 1)))) (key st.next) st.heap, st.grps, st.next + 1⟩, q1, fun K' => ?_,
        ⟨st.next, _, l + 1, l + 1, some st.next, by rw [← hh.len]; simp, he, hs, rfl, rfl⟩, ?_, ⟨_, rfl⟩, fun h => (hpure h).elim⟩
      · rw [hop]
        have hroom : Nat.ble (Nat.add 0 (l + 1)) 0 = false := by rw [show Nat.add 0 (l + 1) = l + 1 from Nat.zero_add _]; rfl
        simp only [appendK, hut, hsz, hby, hz, hzl, lenOfK, natK_eq, hroom]
        rw [show Nat.add 0 (l + 1) = 0 + (l + 1) from rfl, hlimit]
        simp only [firstK]
        rw [show Nat.mul 0 1 = 0 from rfl, show Nat.mul (l + 1) 1 = l + 1 from Nat.mul_one _]
        simp only [readK, hc0, hcs]
        rw [cutK_eq _ _ _ _ (by simp)]
        rw [cutK_eq _ _ _ _ (by show o' + 0 + (l + 1) ≤ _; omega)]
        simp only [appK_eq]
        obtain ⟨h, g', m⟩ := st
        simp only [newCapK, T.setK_eq, natK_eq]
        simp
      · refine (hh.drop (b := b)).add hh.grps (Nat.le_succ _) (Nat.lt_succ_self _) (fun id' hne => by rw [T.get_set, if_neg hne]) ?_ ?_
        · intro b' s' h' hb'
          have := hh.lt _ (List.mem_of_getElem? hb')
          omega
        · refine ⟨(cs.drop o').take (l + 1), el, st.next, some (l + 1, 1), _, l + 1, by rw [T.get_set, if_pos rfl], he, rfl, by simp; omega, fun j hj => ?_⟩
          rw [List.getElem?_take, if_pos hj, List.getElem?_drop]
          show _ = (G g).bind (fun cs => cs[o' + j]?)
          rw [hcs]; rfl

/-- All of them. -/
theorem sOp_ok (hf : FxOk G σ fx) (ht : TR G KT σ β tm ft) (hh : HR G KT σ β hp nb st) (h : sOp P KT fx o tm hp nb K = true) : OpGoes P G KT σ β o ft st K := by
  unfold sOp at h
  split at h
  · rename_i ho; exact sop_move hf ht hh (.inl ho) h
  · rename_i ho; exact sop_move hf ht hh (.inr ho) h
  · rename_i ho; exact sop_pick hf ht hh ho h
  · rename_i ho; exact sop_alloc hh ho h
  · rename_i ho; exact sop_box hf ht hh ho h
  · rename_i ho; exact sop_build hf ht hh ho h
  · rename_i ho; exact sop_load hf ht hh ho h
  · rename_i ho; exact sop_store hf ht hh ho h
  · rename_i ho; exact sop_binOp hf ht hh ho h
  · rename_i ho; exact sop_not hf ht hh ho h
  · rename_i ho; exact sop_convert hf ht hh ho h
  · rename_i ho; exact sop_slice hf ht hh ho h
  · rename_i ho; exact sop_fieldAddr hf ht hh ho h
  · rename_i ho; exact sop_field hf ht hh ho h
  · rename_i ho; exact sop_indexAddr hf ht hh ho h
  · rename_i ho; exact sop_index hf ht hh ho h
  · rename_i ho; exact sop_extract hf ht hh ho h
  · rename_i ho; exact sop_buildSlice hh ho h
  · rename_i c ho
    split at h
    · rename_i hc
      split at h
      · rename_i t x h0 ha; exact sop_len hf ht hh ho hc h0 ha h
      · cases h
    · rename_i hc
      split at h
      · rename_i t u s x h0 ha; exact sop_append hf ht hh ho hc h0 ha h
      · cases h
    · cases h
  · cases h
end
end
end Go.Sym
/- Runs with unknowns: regions, loops, code, calls. -/
namespace Go.Sym
open Go Go.Shd
noncomputable section

/-! ### Equality of values, decided -/
mutual
def SV.beq : SV → SV → Bool
  | .int k e, .int k' e' => match decide (k = k') with
    | true => E.beq e e'
    | false => false
  | .bool f, .bool f' => F.beq f f'
  | .str e, .str e' => E.beq e e'
  | .sl t e, .sl t' e' => match Nat.beq t t' with
    | true => E.beq e e'
    | false => false
  | .sub t e h, .sub t' e' h' => match Nat.beq t t' with
    | true => match E.beq h h' with
      | true => E.beq e e'
      | false => false
    | false => false
  | .cpy t b e, .cpy t' b' e' => match Nat.beq t t' with
    | true => match Nat.beq b b' with
      | true => E.beq e e'
      | false => false
    | false => false
  | .ptr b o, .ptr b' o' => match Nat.beq b b' with
    | true => Nat.beq o o'
    | false => false
  | .mp t e i o, .mp t' e' i' o' => match Nat.beq t t' with
    | true => match Nat.beq o o' with
      | true => match E.beq i i' with
        | true => E.beq e e'
        | false => false
      | false => false
    | false => false
  | .agg l, .agg l' => SVs.beq l l'
  | .lit a, .lit b => avBeq a b
  | _, _ => false
def SVs.beq : List SV → List SV → Bool
  | [], [] => true
  | a :: l, b :: m => match SV.beq a b with
    | true => SVs.beq l m
    | false => false
  | _, _ => false
end

def SB.beq : SB → SB → Bool
  | .cells t l, .cells t' l' => match Nat.beq t t' with
    | true => SVs.beq l l'
    | false => false
  | .copy e, .copy e' => E.beq e e'
  | _, _ => false

def hpSame (h h' : T SB) : Nat → Bool
  | 0 => true
  | n + 1 => match h.get (key n), h'.get (key n) with
    | some a, some b => match SB.beq a b with
      | true => hpSame h h' n
      | false => false
    | none, none => hpSame h h' n
    | none, some _ => hpSame h h' n
    | some _, none => false

/-! ### Regions -/
def setS (S : Sy) (sz : Nat) (dst : Option Tmp) (v : SV) (K : Sy → Bool) : Bool :=
  match S, dst with
  | S, none => K S
  | ⟨tm, hp, nb, nv, fx⟩, some d => match Nat.blt d sz with
    | true => T.setK (some v) (key d) tm fun tm => K ⟨tm, hp, nb, nv, fx⟩
    | false => false

def isBool : AV → Bool
  | .lit (.bool _) => true
  | _ => false

/-- When an operation is run: the formula. -/
def wantF (fx : Fx) (tm : T SV) (ops : Array Oper) (o : Oper) : Option F :=
  match o.guard with
  | none => some .tt
  | some (j, want) => match ops[j]? with
    | some oj => match oj.dst with
      | some d => match tm.get (key d) with
        | some v => match ung fx v with
          | .bool f => match want with
            | true => some f
            | false => some (.no f)
          | .gd g (.bool f) => match want with
            | true => some (.ite g f .ff)
            | false => some (.ite g (.no f) .ff)
          | .lit a => match isBool a with
            | true => none
            | false => some .ff
          | _ => none
        | none => none
      | none => none
    | none => none

abbrev CallS := FuncId → List SV → Sy → (SV → Sy → Bool) → Bool

section
variable (P : Program) (KT : KTab)

/-- A callee's own blocks are forgotten. -/
def dropB : Nat → Nat → T SB → (T SB → Bool) → Bool
  | 0, _, hp, K => K hp
  | n + 1, b, hp, K => T.setK none (key b) hp fun hp => natK (Nat.succ b) fun b => dropB n b hp K

/-- An operation that is run. -/
def sDo (call : CallS) (o : Oper) (S : Sy) (K : SV → Sy → Bool) : Bool :=
  match S with
  | ⟨tm, hp, nb, nv, fx⟩ => match o.op with
    | .call c => match c.callee with
      | .value (.func g) => sEvs fx tm c.args.toList fun args => match tfunc P g with
        | some fn => match fn.body with
          | some _ => match fn.name == "runtime.NumGoroutine" with
            | true => false
            | false => call g args ⟨tm, hp, nb, nv, fx⟩ fun v S' => match S' with
              | ⟨_, hp', nb', nv, fx⟩ => dropB (Nat.sub nb' nb) nb hp' fun hp' => K v ⟨tm, hp', nb', nv, fx⟩
          | none => false
        | none => false
      | _ => sOp P KT fx o tm hp nb fun v hp nb => K v ⟨tm, hp, nb, nv, fx⟩
    | _ => sOp P KT fx o tm hp nb fun v hp nb => K v ⟨tm, hp, nb, nv, fx⟩

def assumeS (S : Sy) (f : F) (b : Bool) (K : Sy → Bool) : Bool :=
  match S with
  | ⟨tm, hp, nb, nv, fx⟩ => K ⟨tm, hp, nb, nv, refresh (assume fx f b)⟩

def sReg (call : CallS) (sz : Nat) (ops : Array Oper) : List Oper → Sy → (Sy → Bool) → Bool
  | [], S, go => go S
  | o :: os, S, go =>
    match wantF S.fx S.tm ops o with
    | none => false
    | some f => match knownX S.fx f with
      | some true => sDo P KT call o S fun v S => setS S sz o.dst v fun S => sReg call sz ops os S go
      | some false => setS S sz o.dst (.lit aundef) fun S => sReg call sz ops os S go
      | none => match isPure o with
        | true => match S with
          | ⟨tm, hp, nb, nv, fx⟩ => sOp P KT (assume fx f true) o tm hp nb fun v _ nb' => match Nat.beq nb' nb with
            | true => setS ⟨tm, hp, nb, nv, fx⟩ sz o.dst (.gd f v) fun S => sReg call sz ops os S go
            | false => false
        | false => match assumeS S f true fun S => sDo P KT call o S fun v S => setS S sz o.dst v fun S => sReg call sz ops os S go with
          | true => assumeS S f false fun S => setS S sz o.dst (.lit aundef) fun S => sReg call sz ops os S go
          | false => false

/-- Values that may be read again. -/
def againS : SV → Bool
  | .int _ _ | .bool _ | .str _ | .sl _ _ => true
  | _ => false

/-- The reads so far that a call is not bound to stand behind: each gives the same number again. -/
def sAgain (ops : Array Oper) (bj : Nat) (S : Sy) : List (Nat × F × SV) → Bool
  | [] => true
  | (i, f, v) :: l => match Nat.testBit bj i with
    | true => sAgain ops bj S l
    | false => match known S.fx f with
      | some false => sAgain ops bj S l
      | _ => match ops[i]?, againS v with
        | some o, true => match isPure o with
          | true => match S with
            | ⟨tm, hp, nb, nv, fx⟩ => sOp P KT (assume fx f true) o tm hp nb fun v' _ _ => match SV.beq v v' with
              | true => sAgain ops bj ⟨tm, hp, nb, nv, fx⟩ l
              | false => false
          | false => false
        | _, _ => false

def sDrawn (call : CallS) (sz : Nat) (ops : Array Oper) (bf : Array Nat) : List Nat → List (Nat × F × SV) → Sy → (Sy → Bool) → Bool
  | [], _, S, go => go S
  | i :: is, reads, S, go =>
    match ops[i]? with
    | none => false
    | some o => match wantF S.fx S.tm ops o with
      | none => false
      | some f => match knownX S.fx f with
        | some false => setS S sz o.dst (.lit aundef) fun S => sDrawn call sz ops bf is reads S go
        | kn => match kindOf o.op with
          | .quiet => match S with
            | ⟨tm, hp, nb, nv, fx⟩ => sOp P KT (assume fx f true) o tm .leaf nb fun v _ nb' => match Nat.beq nb' nb with
              | true => setS ⟨tm, hp, nb, nv, fx⟩ sz o.dst (match kn with | some true => v | _ => .gd f v) fun S => sDrawn call sz ops bf is reads S go
              | false => false
          | .read => match S with
            | ⟨tm, hp, nb, nv, fx⟩ => sOp P KT (assume fx f true) o tm hp nb fun v _ nb' => match Nat.beq nb' nb with
              | true => setS ⟨tm, hp, nb, nv, fx⟩ sz o.dst (match kn with | some true => v | _ => .gd f v) fun S => sDrawn call sz ops bf is ((i, f, v) :: reads) S go
              | false => false
          | .loud => match allAfter bf i is with
            | true =>
              (fun run : Sy → Bool => match kn with
                | some true => run S
                | _ => match assumeS S f true run with
                  | true => assumeS S f false fun S => setS S sz o.dst (.lit aundef) fun S => sDrawn call sz ops bf is reads S go
                  | false => false)
              fun S => sDo P KT call o S fun v S => setS S sz o.dst v fun S => match sAgain P KT ops (bf.getD i 0) S reads with
                | true => sDrawn call sz ops bf is reads S go
                | false => false
            | false => false
          | _ => false

/-! ### Loops -/
/-- The bound of a loop: the length of a slice, or a string's that is known to be small. -/
def bigLen : Nat := 4611686018427387904
def boundOf (S : Sy) (b : Bd) : Option E :=
  match b with
  | .tmp t => match S.tm.get (key t) with
    | some (.sl te e) => match KT.get (key te) with
      | some (_, lim) => match Nat.ble lim bigLen with
        | true => some (.len e)
        | false => none
      | none => none
    | some (.sub te _ h) => match KT.get (key te) with
      | some (_, lim) => match Nat.ble lim bigLen with
        | true => some h
        | false => none
      | none => none
    | some (.cpy te _ e) => match KT.get (key te) with
      | some (_, lim) => match Nat.ble lim bigLen with
        | true => some (.len e)
        | false => none
      | none => none
    | some (.str e) => match intLe (highOf (.len e) S.fx.le 0 bigPos) 4611686018427387904 with
      | true => some (.len e)
      | false => none
    | _ => none
  | .cell t off => match S.tm.get (key t) with
    | some (.ptr b o) => match S.hp.get (key b) with
      | some (.cells _ l) => match l[o + off]? with
        | some (.sl te e) => match KT.get (key te) with
          | some (_, lim) => match Nat.ble lim bigLen with
            | true => some (.len e)
            | false => none
          | none => none
        | _ => none
      | _ => none
    | _ => none

/-- A slice's own term. -/
def sliceOf (S : Sy) (b : Bd) : Option E :=
  match b with
  | .tmp t => match S.tm.get (key t) with
    | some (.sl _ e) => some e
    | some (.cpy _ _ e) => some e
    | _ => none
  | .cell t off => match S.tm.get (key t) with
    | some (.ptr b o) => match S.hp.get (key b) with
      | some (.cells _ l) => match l[o + off]? with
        | some (.sl _ e) => some e
        | _ => none
      | _ => none
    | _ => none

def keepS (tm : T SV) : List Tmp → T SV → (T SV → Bool) → Bool
  | [], r, K => K r
  | t :: l, r, K => match tm.get (key t) with
    | some v => T.setK (some v) (key t) r fun r => keepS tm l r K
    | none => keepS tm l r K

/-- Temporaries of which nothing is known but their kind. -/
def havS (tm : T SV) : List Tmp → T SV → Nat → (T SV → Nat → Bool) → Bool
  | [], r, nv, K => K r nv
  | t :: l, r, nv, K => match tm.get (key t) with
    | some (.int k _) => T.setK (some (.int k (.v nv))) (key t) r fun r => natK (Nat.succ nv) fun nv => havS tm l r nv K
    | some (.bool _) => T.setK (some (.bool (.atom (.v nv)))) (key t) r fun r => natK (Nat.succ nv) fun nv => havS tm l r nv K
    | _ => false

def havCells : List SV → Nat → (List SV → Nat → Bool) → Bool
  | [], nv, K => K [] nv
  | .int k _ :: l, nv, K => natK (Nat.succ nv) fun nv' => havCells l nv' fun r nv' => K (.int k (.v nv) :: r) nv'
  | _ :: _, _, _ => false

def havBlk (tm : T SV) : List Tmp → T SB → Nat → (T SB → Nat → Bool) → Bool
  | [], hp, nv, K => K hp nv
  | t :: l, hp, nv, K => match tm.get (key t) with
    | some (.ptr b _) => match hp.get (key b) with
      | some (.cells e cs) => havCells cs nv fun cs nv => T.setK (some (.cells e cs)) (key b) hp fun hp => havBlk tm l hp nv K
      | _ => false
    | _ => false

def allS (S : Sy) (c : E) : List (Bd × Bd) → (List (E × E × E) → Bool) → Bool
  | [], K => K []
  | (s, h) :: l, K => match sliceOf S s, boundOf KT S h with
    | some s, some h => allS S c l fun r => K ((s, c, h) :: r)
    | _, _ => false

/-- Behind a round: what was kept is as it was. -/
def keptS (tm0 tm : T SV) : List Tmp → Bool
  | [] => true
  | t :: l => match tm0.get (key t) with
    | some v => match tm.get (key t) with
      | some v' => match SV.beq v v' with
        | true => keptS tm0 tm l
        | false => false
      | none => false
    | none => keptS tm0 tm l
def hadS (tm0 tm : T SV) : List Tmp → Bool
  | [] => true
  | t :: l => match tm0.get (key t), tm.get (key t) with
    | some (.int k _), some (.int k' _) => match decide (k = k') with
      | true => hadS tm0 tm l
      | false => false
    | some (.bool _), some (.bool _) => hadS tm0 tm l
    | _, _ => false
def kindsS : List SV → List SV → Bool
  | [], [] => true
  | .int k _ :: l, .int k' _ :: m => match decide (k = k') with
    | true => kindsS l m
    | false => false
  | _, _ => false
def blkS (tm0 : T SV) (hp0 hp : T SB) : List Tmp → Bool
  | [] => true
  | t :: l => match tm0.get (key t) with
    | some (.ptr b _) => match hp0.get (key b), hp.get (key b) with
      | some (.cells e cs), some (.cells e' cs') => match Nat.beq e e', kindsS cs cs' with
        | true, true => blkS tm0 hp0 hp l
        | _, _ => false
      | _, _ => false
    | _ => false

def elemsOk (fx : Fx) (c : E) : List (E × E × E) → Bool
  | [] => true
  | (s, _, h) :: l => match idxOk0 fx (.rd s c 1 0) h with
    | true => elemsOk fx c l
    | false => false

/-- The blocks that a loop turns. -/
def blkNums (tm : T SV) : List Tmp → List Nat
  | [] => []
  | t :: l => match tm.get (key t) with
    | some (.ptr b _) => b :: blkNums tm l
    | _ => blkNums tm l
def memN (n : Nat) : List Nat → Bool
  | [] => false
  | m :: l => match Nat.beq n m with
    | true => true
    | false => memN n l
def hpSameBut (bs : List Nat) (h h' : T SB) : Nat → Bool
  | 0 => true
  | n + 1 => match memN n bs with
    | true => hpSameBut bs h h' n
    | false => match h.get (key n) with
      | some a => match h'.get (key n) with
        | some b => match SB.beq a b with
          | true => hpSameBut bs h h' n
          | false => false
        | none => false
      | none => match h'.get (key n) with
        | none => hpSameBut bs h h' n
        | some _ => false

def backS (h : LoopHint) (S0 : Sy) (B c : E) (al : List (E × E × E)) (S : Sy) : Bool :=
  match keptS S0.tm S.tm h.keep with
  | false => false
  | true => match hadS S0.tm S.tm h.hav with
    | false => false
    | true => match blkS S0.tm S0.hp S.hp h.blk with
      | false => false
      | true => match hpSameBut (blkNums S0.tm h.blk) S0.hp S.hp S0.nb with
        | false => false
        | true => match S.tm.get (key h.cnt) with
          | some (.int .i64 (.bin .add _ c' (.int .i64 1))) => match E.beq c c' with
            | false => false
            | true => match pairIn c B S.fx.lt with
              | false => false
              | true => elemsOk S.fx c al
          | _ => false

def sLoop (h : LoopHint) (S0 : Sy) (body : Sy → (Sy → Bool) → Bool) : Bool :=
  match S0 with
  | ⟨tm, hp, nb, nv, fx⟩ => match tm.get (key h.cnt) with
    | some (.int .i64 e0) => match nonneg fx e0 with
      | false => false
      | true => match boundOf KT ⟨tm, hp, nb, nv, fx⟩ h.bnd with
        | none => false
        | some B => match (match h.all with
            | [] => true
            | _ :: _ => match e0 with
              | .int _ n => intBeq n 0
              | _ => false) with
          | false => false
          | true => natK (Nat.succ nv) fun nv1 => keepS tm h.keep .leaf fun r => T.setK (some (.int .i64 (.v nv))) (key h.cnt) r fun r =>
            havS tm h.hav r nv1 fun r nv1 => havBlk tm h.blk hp nv1 fun hp' nv1 => allS KT ⟨tm, hp, nb, nv, fx⟩ (.v nv) h.all fun al => match fx with
              | ⟨lt, le, eq, ne, bl, cx, al0⟩ => body ⟨r, hp', nb, nv1, ⟨lt, (.int .i64 0, .v nv) :: le, eq, ne, bl, cx, al ++ al0⟩⟩ fun S => backS h ⟨tm, hp, nb, nv, fx⟩ B (.v nv) al S
    | _ => false

/-! ### Calls that are looked into once: of what comes back the kind alone is kept -/
mutual
def shapeOk : SV → SV → Bool
  | .int k _, .int k' _ => decide (k = k')
  | .bool _, .bool _ => true
  | .tup l, .tup m => shapesOk l m
  | .agg l, .agg m => shapesOk l m
  | _, _ => false
def shapesOk : List SV → List SV → Bool
  | [], [] => true
  | a :: l, b :: m => match shapeOk a b with
    | true => shapesOk l m
    | false => false
  | _, _ => false
end
mutual
def freshS : SV → Nat → (SV → Nat → Bool) → Bool
  | .int k _, nv, K => natK (Nat.succ nv) fun nv' => K (.int k (.v nv)) nv'
  | .bool _, nv, K => natK (Nat.succ nv) fun nv' => K (.bool (.atom (.v nv))) nv'
  | .tup l, nv, K => freshL l nv fun l nv => K (.tup l) nv
  | .agg l, nv, K => freshL l nv fun l nv => K (.agg l) nv
  | _, _, _ => false
def freshL : List SV → Nat → (List SV → Nat → Bool) → Bool
  | [], nv, K => K [] nv
  | a :: l, nv, K => freshS a nv fun a nv => freshL l nv fun l nv => K (a :: l) nv
end
def callJ (J : FuncId → Option SV) (call : CallS) : CallS := fun g args S K => match J g with
  | none => call g args S K
  | some sh => match S with
    | ⟨tm, hp, nb, nv, fx⟩ => match call g args ⟨tm, hp, nb, nv, fx⟩ (fun v S' => match shapeOk sh v with
        | true => hpSameBut [] hp S'.hp nb
        | false => false) with
      | true => freshS sh nv fun v nv' => K v ⟨tm, hp, nb, nv', fx⟩
      | false => false

/-! ### Code, calls -/
def argsS (i : Nat) : List SV → T SV → (T SV → Bool) → Bool
  | [], tm, K => K tm
  | v :: l, tm, K => T.setK (some v) (key i) tm fun tm => natK (Nat.succ i) fun i => argsS i l tm K

def sRes (S : Sy) : List ResultVar → (List SV → Bool) → Bool
  | [], K => K []
  | .tmp t :: l, K => sEv S.fx S.tm (.tmp t) fun v => sRes S l fun r => K (v :: r)
  | .cell a t :: l, K => sEv S.fx S.tm (.tmp a) fun a => sLoad P KT S.hp t a fun v => sRes S l fun r => K (v :: r)

def sCode (J : FuncId → Option SV) (H : FuncId → Nat → Option LoopHint) : Nat → FuncId → Nat → Nat → Code → Sy → (Sy → Bool) → (Nat → Sy → Bool) → (Sy → Bool) → Bool
  | 0, _, _, _, _, _, _, _, _ => false
  | n + 1, f, sz, bid, c, S, kN, kX, kR => match c with
    | .skip => kN S
    | .seq a b => sCode J H n f sz bid a S (fun S => sCode J H n f sz bid b S kN kX kR) kX kR
    | .cond x a b => sEv S.fx S.tm x fun v => boolS v fun q => match knownX S.fx q with
      | some true => sCode J H n f sz bid a S kN kX kR
      | some false => sCode J H n f sz bid b S kN kX kR
      | none => match assumeS S q true fun S => sCode J H n f sz bid a S kN kX kR with
        | true => assumeS S q false fun S => sCode J H n f sz bid b S kN kX kR
        | false => false
    | .block id b => sCode J H n f sz id b S kN (fun i S => match Nat.beq i id with
      | true => kN S
      | false => kX i S) kR
    | .loop b => match H f bid with
      | some h => sLoop KT h S fun S back => sCode J H n f sz bid b S back kX kR
      | none => false
    | .exit id => kX id S
    | .ret => kR S
    | .region _ ops draw =>
      (fun call : CallS => match draw with
        | false => sReg P KT call sz ops ops.toList S kN
        | true => match Nat.beq (order ops).length ops.size && strictOk ops (Region.before ops) with
          | true => sDrawn P KT call sz ops (Region.before ops) (order ops) [] S kN
          | false => false)
      (callJ J fun g args S K => match tfunc P g with
        | some fn => match fn.body with
          | some c => argsS 0 args .leaf fun tm => lenK args 0 fun m => natK (Nat.add m (Nat.sub fn.ntmps m)) fun sz' => match S with
            | ⟨_, hp, nb, nv, fx⟩ =>
              (fun ret : Sy → Bool => sCode J H n g sz' 0 c ⟨tm, hp, nb, nv, fx⟩ ret (fun _ _ => false) ret)
              fun S => sRes P KT S fn.results.toList fun l => match l with
                | [v] => K v S
                | l => K (.tup l) S
          | none => false
        | none => false)
    | _ => false

/-- A function at arguments of which only the types are known. -/
def sTop (J : FuncId → Option SV) (H : FuncId → Nat → Option LoopHint) (n : Nat) (g : FuncId) (args : List SV) (S : Sy) (K : SV → Sy → Bool) : Bool :=
  match tfunc P g with
  | some fn => match fn.body with
    | some c => argsS 0 args .leaf fun tm => lenK args 0 fun m => natK (Nat.add m (Nat.sub fn.ntmps m)) fun sz' => match S with
      | ⟨_, hp, nb, nv, fx⟩ =>
        (fun ret : Sy → Bool => sCode P KT J H n g sz' 0 c ⟨tm, hp, nb, nv, fx⟩ ret (fun _ _ => false) ret)
        fun S => sRes P KT S fn.results.toList fun l => match l with
          | [v] => K v S
          | l => K (.tup l) S
    | none => false
  | none => false
end
end
end Go.Sym
/- Equality of values, decided: sound. -/
namespace Go.Sym
open Go Go.Shd
noncomputable section
mutual
theorem SV.beq_eq : ∀ {a b : SV}, SV.beq a b = true → a = b
  | .int k e, b, h => by
    cases b <;> simp only [SV.beq] at h <;> try cases h
    split at h <;> try cases h
    rename_i _ h1
    rw [of_decide_eq_true h1, E.beq_eq h]
  | .bool f, b, h => by cases b <;> simp only [SV.beq] at h <;> first | (rw [F.beq_eq h]; done) | cases h
  | .str e, b, h => by cases b <;> simp only [SV.beq] at h <;> first | (rw [E.beq_eq h]; done) | cases h
  | .sl t e, b, h => by
    cases b <;> simp only [SV.beq] at h <;> try cases h
    split at h <;> try cases h
    rename_i _ h1
    rw [Nat.eq_of_beq_eq_true h1, E.beq_eq h]
  | .sub t e q, b, h => by
    cases b <;> simp only [SV.beq] at h <;> try cases h
    split at h <;> try cases h
    split at h <;> try cases h
    rename_i _ h1 _ h2
    rw [Nat.eq_of_beq_eq_true h1, E.beq_eq h2, E.beq_eq h]
  | .cpy t i e, b, h => by
    cases b <;> simp only [SV.beq] at h <;> try cases h
    split at h <;> try cases h
    split at h <;> try cases h
    rename_i _ h1 _ h2
    rw [Nat.eq_of_beq_eq_true h1, Nat.eq_of_beq_eq_true h2, E.beq_eq h]
  | .ptr i o, b, h => by
    cases b <;> simp only [SV.beq] at h <;> try cases h
    split at h <;> try cases h
    rename_i _ h1
    rw [Nat.eq_of_beq_eq_true h1, Nat.eq_of_beq_eq_true h]
  | .mp t e i o, b, h => by
    cases b <;> simp only [SV.beq] at h <;> try cases h
    split at h <;> try cases h
    split at h <;> try cases h
    split at h <;> try cases h
    rename_i _ h1 _ h2 _ h3
    rw [Nat.eq_of_beq_eq_true h1, Nat.eq_of_beq_eq_true h2, E.beq_eq h3, E.beq_eq h]
  | .agg l, b, h => by cases b <;> simp only [SV.beq] at h <;> first | (rw [SVs.beq_eq h]; done) | cases h
  | .lit a, b, h => by cases b <;> simp only [SV.beq] at h <;> first | (rw [avBeq_eq _ _ h]; done) | cases h
  | .em _, b, h => by cases b <;> cases h
  | .cp _ _ _ _, b, h => by cases b <;> cases h
  | .tup _, b, h => by cases b <;> cases h
  | .gd _ _, b, h => by cases b <;> cases h
theorem SVs.beq_eq : ∀ {a b : List SV}, SVs.beq a b = true → a = b
  | [], [], _ => rfl
  | a :: l, b :: m, h => by
    simp only [SVs.beq] at h
    split at h <;> try cases h
    rename_i h1
    rw [SV.beq_eq h1, SVs.beq_eq h]
  | [], _ :: _, h => by cases h
  | _ :: _, [], h => by cases h
end
theorem SB.beq_eq {a b : SB} (h : SB.beq a b = true) : a = b := by
  cases a <;> cases b <;> simp only [SB.beq] at h <;> try cases h
  · split at h <;> try cases h
    rename_i h1
    rw [Nat.eq_of_beq_eq_true h1, SVs.beq_eq h]
  · rw [E.beq_eq h]

end
end Go.Sym
/- Regions with unknowns are sound: in the order of the text. -/
namespace Go.Sym
open Go Go.Shd
noncomputable section

structure Holds (G : Globals) (KT : KTab) (σ : List AV) (β : List Nat) (S : Sy) (ft : T AV) (st : St) : Prop where
  fx : FxOk G σ S.fx
  tr : TR G KT σ β S.tm ft
  hr : HR G KT σ β S.hp S.nb st
  nv : σ.length = S.nv

/-- What a call comes to. -/
def CallOk (P : Program) (G : Globals) (KT : KTab) (call : CallS) : Prop :=
  ∀ {g : FuncId} {args : List SV} {S : Sy} {K : SV → Sy → Bool}, call g args S K = true → ∀ {σ : List AV} {β : List Nat} {st : St} {xs : List AV},
    FxOk G σ S.fx → HR G KT σ β S.hp S.nb st → σ.length = S.nv → RSs G KT σ β args xs →
    ∃ sv S' σ' β' st' v r, K sv S' = true ∧ RS G KT σ' β' sv v ∧ FxOk G σ' S'.fx ∧ HR G KT σ' β' S'.hp S'.nb st' ∧ σ'.length = S'.nv ∧ Ext σ σ' ∧ ExtN β β' ∧
      ∃ N, ∀ n, N ≤ n → ∀ K' : AEnd → St → Bool, K' (.ret v r) st' = true → enterK P g xs false none (fun gf => run P G n gf st K') = true

section
variable {P : Program} {G : Globals} {KT : KTab} {σ : List AV} {β : List Nat} {S : Sy} {ft : T AV} {st : St} {sz : Nat} {ops : Array Oper} {o : Oper} {call : CallS}

theorem setS_true {dst : Option Tmp} {v : SV} {x : AV} {K : Sy → Bool} (hH : Holds G KT σ β S ft st) (hv : RS G KT σ β v x) (h : setS S sz dst v K = true) :
    ∃ S' ft', K S' = true ∧ Holds G KT σ β S' ft' st ∧ S'.fx = S.fx ∧ S'.hp = S.hp ∧ S'.nb = S.nb ∧ S'.nv = S.nv ∧ ∀ K' : T AV → Bool, setTK ft sz dst x K' = K' ft' := by
  obtain ⟨tm, hp, nb, nv, fx⟩ := S
  cases dst with
  | none => exact ⟨_, ft, h, hH, rfl, rfl, rfl, rfl, fun K' => rfl⟩
  | some d =>
    simp only [setS] at h
    split at h
    case h_2 => cases h
    rename_i hd
    rw [T.setK_eq] at h
    refine ⟨_, T.set (some x) (key d) ft, h, ⟨hH.fx, fun t s hs => ?_, hH.hr, hH.nv⟩, rfl, rfl, rfl, rfl, fun K' => by simp only [setTK, hd, T.setK_eq]⟩
    simp only at hs
    rw [T.get_set] at hs ⊢
    split at hs
    · rename_i e; subst e
      cases hs
      exact ⟨x, by rw [if_pos rfl], hv⟩
    · rename_i e
      rw [if_neg e]
      exact hH.tr t s hs

theorem wantF_true {f : F} {fx : Fx} {tm : T SV} (hf : FxOk G σ fx) (ht : TR G KT σ β tm ft) (h : wantF fx tm ops o = some f) : evF G σ f = some (wantedK ops o ft) := by
  unfold wantF at h
  unfold wantedK
  split at h
  · rename_i hg
    cases h
    rw [hg]; rfl
  · rename_i j want hg
    rw [hg]
    simp only
    split at h
    case h_2 => cases h
    rename_i oj hj
    rw [hj]
    simp only
    split at h
    case h_2 => cases h
    rename_i d hd
    rw [hd]
    simp only
    split at h
    case h_2 => cases h
    rename_i v hv
    obtain ⟨x, h1, h2⟩ := ht _ _ hv
    have h3 := ung_RS hf h2
    rw [h1]
    split at h
    · rename_i q hq
      rw [hq] at h3
      obtain ⟨b, h4, rfl⟩ := h3
      split at h
      · cases h; rw [h4]; cases b <;> rfl
      · cases h; simp only [evF, h4, Option.map_some]; cases b <;> rfl
    · rename_i g q hq
      rw [hq] at h3
      obtain ⟨b, h4, h5, h6⟩ := h3
      cases b with
      | true =>
        obtain ⟨b', h7, rfl⟩ := h5 rfl
        split at h
        · cases h; simp only [evF, h4, h7]; cases b' <;> rfl
        · cases h; simp only [evF, h4, h7, Option.map_some]; cases b' <;> rfl
      | false =>
        have := h6 rfl
        subst this
        split at h
        · cases h; simp only [evF, h4]; rfl
        · cases h; simp only [evF, h4]; rfl
    · rename_i a hq
      rw [hq] at h3
      simp only [RS] at h3
      subst h3
      split at h
      · cases h
      · rename_i hb
        cases h
        simp only [evF]
        unfold isBool at hb
        split
        · rename_i e; cases e; cases hb
        · rename_i e; cases e; cases hb
        · rfl
    · cases h


theorem cellsS_some {v : SV} {K : List SV → Bool} (h : cellsS v K = true) : ∃ l, K l = true := by
  unfold cellsS at h
  split at h <;> split at h <;> first | exact ⟨_, h⟩ | cases h
theorem sLoad_some {hp : T SB} {t : TypeId} {a : SV} {K : SV → Bool} (h : sLoad P KT hp t a K = true) : ∃ s, K s = true := by
  unfold sLoad at h
  split at h
  · split at h
    · split at h
      · split at h
        · exact ⟨_, (cutK_true' _ _ _ _ h).2⟩
        · cases h
      · obtain ⟨s, _, hs⟩ := nthK_true' _ _ _ h; exact ⟨s, hs⟩
      · cases h
    · cases h
  · split at h
    · split at h
      · split at h
        · exact ⟨_, (cutK_true' _ _ _ _ h).2⟩
        · cases h
      · obtain ⟨s, _, hs⟩ := nthK_true' _ _ _ h; exact ⟨s, hs⟩
      · cases h
    · cases h
  · split at h
    · split at h
      · exact ⟨_, h⟩
      · cases h
    · cases h
  · cases h
theorem sBin_some {op : BinOp} {t : TypeId} {x y : SV} {K : SV → Bool} (h : sBin op t x y K = true) : ∃ s, K s = true := by
  unfold sBin at h
  split at h
  · split at h
    · split at h
      · exact ⟨_, h⟩
      · split at h
        · exact ⟨_, h⟩
        · cases h
    · cases h
  · split at h <;> first | exact ⟨_, h⟩ | cases h
  · cases h
theorem sFill_some {fx : Fx} {place : Nat → Option (Nat × Nat)} {tm : T SV} : ∀ {parts : List (Nat × Operand)} {cs : List SV} {K : List SV → Bool}, sFill fx place tm parts cs K = true → ∃ l, K l = true
  | [], cs, K, h => ⟨_, h⟩
  | (i, x) :: l, cs, K, h => by
    simp only [sFill] at h
    obtain ⟨s, h⟩ := sEv_some h
    obtain ⟨l', h⟩ := cellsS_some h
    split at h
    case h_2 => cases h
    split at h
    case h_2 => cases h
    exact sFill_some (putK_true' _ _ _ _ h).2

theorem sOp_some {fx : Fx} {tm : T SV} {hp : T SB} {nb : Nat} {K : SK} (h : sOp P KT fx o tm hp nb K = true) : ∃ v hp' nb', K v hp' nb' = true := by
  have ev : ∀ {x : Operand} {Q : SV → Bool}, sEv fx tm x Q = true → ∃ s, Q s = true := sEv_some
  unfold sOp at h
  split at h
  · obtain ⟨s, h⟩ := ev h; exact ⟨_, _, _, h⟩
  · obtain ⟨s, h⟩ := ev h; exact ⟨_, _, _, h⟩
  · obtain ⟨s, h⟩ := ev h
    obtain ⟨f, h⟩ := boolS_some h
    split at h
    · obtain ⟨s, h⟩ := ev h; exact ⟨_, _, _, h⟩
    · obtain ⟨s, h⟩ := ev h; exact ⟨_, _, _, h⟩
    · obtain ⟨s, h⟩ := sEv_some h
      obtain ⟨f, h⟩ := boolS_some h
      obtain ⟨s, h⟩ := sEv_some h
      obtain ⟨f, h⟩ := boolS_some h
      exact ⟨_, _, _, h⟩
  · split at h
    · rw [T.setK_eq, natK_eq] at h; exact ⟨_, _, _, h⟩
    · cases h
  · obtain ⟨s, h⟩ := ev h
    obtain ⟨l, h⟩ := cellsS_some h
    rw [T.setK_eq, natK_eq] at h; exact ⟨_, _, _, h⟩
  · split at h
    case h_2 => cases h
    split at h
    case h_2 => cases h
    split at h
    case h_2 => cases h
    obtain ⟨l, h⟩ := sFill_some h
    exact ⟨_, _, _, h⟩
  · obtain ⟨s, h⟩ := ev h
    obtain ⟨s, h⟩ := sLoad_some h
    exact ⟨_, _, _, h⟩
  · obtain ⟨s, h⟩ := ev h
    obtain ⟨s', h⟩ := ev h
    split at h
    case h_2 => cases h
    split at h
    case h_2 => cases h
    obtain ⟨l, h⟩ := cellsS_some h
    split at h
    case h_2 => cases h
    split at h
    case h_2 => cases h
    have h := (putK_true' _ _ _ _ h).2
    rw [T.setK_eq] at h
    exact ⟨_, _, _, h⟩
  · obtain ⟨s, h⟩ := ev h
    obtain ⟨s', h⟩ := ev h
    obtain ⟨s, h⟩ := sBin_some h
    exact ⟨_, _, _, h⟩
  · obtain ⟨s, h⟩ := ev h
    obtain ⟨f, h⟩ := boolS_some h
    exact ⟨_, _, _, h⟩
  · obtain ⟨s, h⟩ := ev h
    split at h
    · exact ⟨_, _, _, h⟩
    · cases h
  · obtain ⟨s, h⟩ := ev h
    obtain ⟨s', h⟩ := ev h
    split at h
    case h_2 => cases h
    split at h
    case h_2 => cases h
    split at h
    case h_2 => cases h
    split at h
    case h_2 => cases h
    exact ⟨_, _, _, h⟩
  · obtain ⟨s, h⟩ := ev h
    split at h
    case h_2 => cases h
    split at h
    case h_2 => cases h
    split at h
    · rw [natK_eq] at h; exact ⟨_, _, _, h⟩
    · rw [natK_eq] at h; exact ⟨_, _, _, h⟩
    · cases h
  · obtain ⟨s, h⟩ := ev h
    split at h
    case h_2 => cases h
    split at h
    · split at h
      · exact ⟨_, _, _, (cutK_true' _ _ _ _ h).2⟩
      · cases h
    · obtain ⟨s, _, hs⟩ := nthK_true' _ _ _ h; exact ⟨_, _, _, hs⟩
    · cases h
  · obtain ⟨s, h⟩ := ev h
    obtain ⟨s', h⟩ := ev h
    split at h
    case h_2 => cases h
    split at h
    · split at h
      case h_2 => cases h
      split at h
      case h_2 => cases h
      exact ⟨_, _, _, h⟩
    · split at h
      case h_2 => cases h
      split at h
      case h_2 => cases h
      exact ⟨_, _, _, h⟩
    · split at h
      case h_2 => cases h
      exact ⟨_, _, _, h⟩
    · cases h
  · obtain ⟨s, h⟩ := ev h
    obtain ⟨s', h⟩ := ev h
    split at h
    case h_2 => cases h
    split at h
    case h_2 => cases h
    exact ⟨_, _, _, h⟩
  · obtain ⟨s, h⟩ := ev h
    split at h
    case h_2 => cases h
    obtain ⟨s, _, hs⟩ := nthK_true' _ _ _ h; exact ⟨_, _, _, hs⟩
  · split at h
    case h_2 => cases h
    split at h
    case h_2 => cases h
    split at h
    case h_2 => cases h
    rw [T.setK_eq, natK_eq] at h; exact ⟨_, _, _, h⟩
  · split at h
    · split at h
      case h_2 => cases h
      obtain ⟨s, h⟩ := ev h
      split at h <;> first | exact ⟨_, _, _, h⟩ | cases h
    · split at h
      case h_2 => cases h
      obtain ⟨s, h⟩ := ev h
      obtain ⟨s', h⟩ := ev h
      split at h
      case h_2 => cases h
      split at h
      case h_2 => cases h
      split at h
      case h_2 => cases h
      split at h
      case h_2 => cases h
      split at h
      case h_2 => cases h
      split at h
      case h_2 => cases h
      rw [T.setK_eq, T.setK_eq, natK_eq] at h
      exact ⟨_, _, _, h⟩
    · cases h
  · cases h

theorem sOp_value {c : Go.Call} {g : FuncId} {fx : Fx} {tm : T SV} {hp : T SB} {nb : Nat} {K : SK} (ho : o.op = .call c) (hc : c.callee = .value (.func g)) : sOp P KT fx o tm hp nb K = false := by
  unfold sOp
  rw [ho]
  simp only [hc]

/-- What an operation that is run comes to: a value, or the end of a call. -/
def DoGoes (P : Program) (G : Globals) (KT : KTab) (σ : List AV) (β : List Nat) (o : Oper) (ft : T AV) (st : St) (K : SV → Sy → Bool) : Prop :=
  ∃ sv S' σ' β' st' x, K sv S' = true ∧ RS G KT σ' β' sv x ∧ Holds G KT σ' β' S' ft st' ∧ Ext σ σ' ∧ ExtN β β' ∧
    ∃ N, ∀ n, N ≤ n → ∀ (sz : Nat) (dfd : Bool) (m : Mv) (go : Mv → St → Bool) (pan : AV → St → Bool), m.tm = ft → setTK m.tm sz o.dst x (fun tm => go ⟨tm, m.defs, m.up, m.recd⟩ st') = true →
      opK P G o ft st (fun nx st => afterK P (run P G n) sz none dfd m o.dst nx st go pan) = true

theorem dropB_true {nb : Nat} : ∀ {n b : Nat} {hp : T SB} {K : T SB → Bool}, HR G KT σ β hp nb st → dropB n b hp K = true → ∃ hp', K hp' = true ∧ HR G KT σ β hp' nb st
  | 0, b, hp, K, hh, h => ⟨hp, h, hh⟩
  | n + 1, b, hp, K, hh, h => by
    simp only [dropB, T.setK_eq, natK_eq] at h
    exact dropB_true hh.drop h

theorem sDo_true (hcall : CallOk P G KT call) {K : SV → Sy → Bool} (hH : Holds G KT σ β S ft st) (h : sDo P KT call o S K = true) : DoGoes P G KT σ β o ft st K := by
  obtain ⟨tm, hp, nb, nv, fx⟩ := S
  have plain : (sOp P KT fx o tm hp nb fun v hp nb => K v ⟨tm, hp, nb, nv, fx⟩) = true → DoGoes P G KT σ β o ft st K := by
    intro h
    obtain ⟨sv, hp', nb', β', x, st', h1, h2, h3, h4, h5, _⟩ := sOp_ok hH.fx hH.tr hH.hr h
    refine ⟨sv, _, σ, β', st', x, h1, h3, ⟨hH.fx, hH.tr.ext (Ext.refl _) h5, h4, hH.nv⟩, Ext.refl _, h5, 0, fun n _ sz dfd m go pan hm hgo => ?_⟩
    rw [h2]
    exact hgo
  unfold sDo at h
  simp only at h
  split at h
  · rename_i c ho
    split at h
    · rename_i g hc
      obtain ⟨args, xs, h1, h2, h3⟩ := sEvs_true hH.fx hH.tr h
      split at h1
      case h_2 => cases h1
      rename_i fn hfn
      split at h1
      case h_2 => cases h1
      rename_i body hb
      split at h1
      case h_1 => cases h1
      rename_i hname
      obtain ⟨sv, S', σ', β', st', v, r, q1, q2, q3, q4, q5, q6, q7, N, q8⟩ := hcall h1 hH.fx hH.hr hH.nv h2
      obtain ⟨tm', hp', nb', nv', fx'⟩ := S'
      obtain ⟨hp'', q1, q4⟩ := dropB_true q4 q1
      refine ⟨sv, _, σ', β', st', v, q1, q2, ⟨q3, hH.tr.ext q6 q7, q4, q5⟩, q6, q7, N, fun n hn sz dfd m go pan hm hgo => ?_⟩
      simp only [opK, ho, hc]
      rw [h3]
      simp only [evK, callK, hfn, hb, hname, appK_eq, List.append_nil, List.nil_append, afterK]
      refine q8 n hn _ ?_
      exact hgo
    · exact plain h
  · exact plain h

/-- What a region comes to. -/
def RegGoes (P : Program) (G : Globals) (KT : KTab) (σ : List AV) (β : List Nat) (sz : Nat) (ops : Array Oper) (os : List Oper) (ft : T AV) (st : St) (go : Sy → Bool) : Prop :=
  ∃ S' σ' β' ft' st', go S' = true ∧ Holds G KT σ' β' S' ft' st' ∧ Ext σ σ' ∧ ExtN β β' ∧
    ∃ N, ∀ n, N ≤ n → ∀ (dfd : Bool) (up : Option AV) (recd : Bool) (pan : Mv → AV → St → Bool) (go' : Mv → St → Bool), go' ⟨ft', [], up, recd⟩ st' = true → regK P G (run P G n) sz none dfd ops pan os ⟨ft, [], up, recd⟩ st go' = true

theorem assumeS_true {f : F} {b : Bool} {K : Sy → Bool} (hH : Holds G KT σ β S ft st) (he : evF G σ f = some b) (h : assumeS S f b K = true) :
    ∃ S', K S' = true ∧ Holds G KT σ β S' ft st := by
  obtain ⟨tm, hp, nb, nv, fx⟩ := S
  exact ⟨_, h, refresh_ok (assume_ok hH.fx he), hH.tr, hH.hr, hH.nv⟩

theorem sReg_true (hcall : CallOk P G KT call) : ∀ {os : List Oper} {S : Sy} {σ : List AV} {β : List Nat} {ft : T AV} {st : St} {go : Sy → Bool}, Holds G KT σ β S ft st → sReg P KT call sz ops os S go = true → RegGoes P G KT σ β sz ops os ft st go
  | [], S, σ, β, ft, st, go, hH, h => ⟨S, σ, β, ft, st, h, hH, Ext.refl _, ExtN.refl _, 0, fun n _ dfd up recd pan go' hgo => hgo⟩
  | o :: os, S, σ, β, ft, st, go, hH, h => by
    -- the operation is not run
    have skip : ∀ {S : Sy}, Holds G KT σ β S ft st → wantedK ops o ft = false → setS S sz o.dst (.lit aundef) (fun S => sReg P KT call sz ops os S go) = true → RegGoes P G KT σ β sz ops (o :: os) ft st go := by
      intro S hH hw h
      obtain ⟨S1, ft1, h1, h2, _, _, _, _, h3⟩ := setS_true (x := aundef) hH (show RS G KT σ β (.lit aundef) aundef from rfl) h
      obtain ⟨S', σ', β', ft', st', q1, q2, q3, q4, N, q5⟩ := sReg_true hcall h2 h1
      refine ⟨S', σ', β', ft', st', q1, q2, q3, q4, N, fun n hn dfd up recd pan go' hgo => ?_⟩
      simp only [regK, hw]
      rw [h3]
      exact q5 n hn dfd up recd pan go' hgo
    -- the operation is run
    have goes : ∀ {S : Sy}, Holds G KT σ β S ft st → wantedK ops o ft = true → sDo P KT call o S (fun v S => setS S sz o.dst v fun S => sReg P KT call sz ops os S go) = true → RegGoes P G KT σ β sz ops (o :: os) ft st go := by
      intro S hH hw h
      obtain ⟨sv, S1, σ1, β1, st1, x, h1, h2, h3, h4, h5, N1, h6⟩ := sDo_true hcall hH h
      obtain ⟨S2, ft2, r1, r2, _, _, _, _, r3⟩ := setS_true h3 h2 h1
      obtain ⟨S', σ', β', ft', st', q1, q2, q3, q4, N2, q5⟩ := sReg_true hcall r2 r1
      refine ⟨S', σ', β', ft', st', q1, q2, h4.trans q3, h5.trans q4, max N1 N2, fun n hn dfd up recd pan go' hgo => ?_⟩
      simp only [regK, hw, badDefer]
      refine h6 n (by omega) sz dfd ⟨ft, [], up, recd⟩ _ _ rfl ?_
      rw [r3]
      exact q5 n (by omega) dfd up recd pan go' hgo
    unfold sReg at h
    split at h
    case h_1 => cases h
    rename_i f hf
    have hw := wantF_true hH.fx hH.tr hf
    split at h
    · rename_i hk
      have := knownX_ok hH.fx hk hw
      exact goes hH this h
    · rename_i hk
      have := knownX_ok hH.fx hk hw
      exact skip hH this h
    · split at h
      · obtain ⟨tm, hp, nb, nv, fx⟩ := S
        simp only at h
        rename_i hpure hkn
        -- the guarded value is laid, whether or not the operation is run
        have lay : ∀ {sv : SV} {nb' : Nat} {x : AV}, (match Nat.beq nb' nb with
            | true => setS ⟨tm, hp, nb, nv, fx⟩ sz o.dst (.gd f sv) fun S => sReg P KT call sz ops os S go
            | false => false) = true → RS G KT σ β (.gd f sv) x →
            (∀ n (dfd : Bool) (up : Option AV) (recd : Bool) (pan : Mv → AV → St → Bool) (go' : Mv → St → Bool), setTK ft sz o.dst x (fun tm => regK P G (run P G n) sz none dfd ops pan os ⟨tm, [], up, recd⟩ st go') = true →
              regK P G (run P G n) sz none dfd ops pan (o :: os) ⟨ft, [], up, recd⟩ st go' = true) → RegGoes P G KT σ β sz ops (o :: os) ft st go := by
          intro sv nb' x h1 hx hstep
          split at h1
          case h_2 => cases h1
          obtain ⟨S2, ft2, r1, r2, _, _, _, _, r3⟩ := setS_true hH hx h1
          obtain ⟨S', σ', β', ft', st', q1, q2, q3, q4, N, q5⟩ := sReg_true hcall r2 r1
          refine ⟨S', σ', β', ft', st', q1, q2, q3, q4, N, fun n hn dfd up recd pan go' hgo => hstep n dfd up recd pan go' ?_⟩
          rw [r3]
          exact q5 n hn dfd up recd pan go' hgo
        cases hwv : wantedK ops o ft with
        | true =>
          rw [hwv] at hw
          obtain ⟨sv, hp', nb', β', x, st', h1, h2, h3, h4, h5, h6⟩ := sOp_ok (assume_ok hH.fx hw) hH.tr hH.hr h
          obtain ⟨rfl, rfl⟩ := h6 hpure
          refine lay h1 ⟨true, hw, fun _ => h3, fun e => by cases e⟩ fun n dfd up recd pan go' hgo => ?_
          simp only [regK, hwv, badDefer]
          rw [h2]
          exact hgo
        | false =>
          rw [hwv] at hw
          obtain ⟨sv, hp', nb', h1⟩ := sOp_some h
          refine lay (x := aundef) h1 ⟨false, hw, (fun e => by cases e), fun _ => rfl⟩ fun n dfd up recd pan go' hgo => ?_
          simp only [regK, hwv]
          exact hgo
      · split at h
        case h_2 => cases h
        rename_i h1
        cases hwv : wantedK ops o ft with
        | true =>
          rw [hwv] at hw
          obtain ⟨S', q1, q2⟩ := assumeS_true hH hw h1
          exact goes q2 hwv q1
        | false =>
          rw [hwv] at hw
          obtain ⟨S', q1, q2⟩ := assumeS_true hH hw h
          exact skip q2 hwv q1
end
end
end Go.Sym
/- Regions with unknowns are sound: in any drawn order. -/
namespace Go.Sym
open Go Go.Shd
noncomputable section
section
variable {P : Program} {G : Globals} {KT : KTab} {sz : Nat} {ops : Array Oper} {bf : Array Nat} {call : CallS}

/-- The reads so far: who was run, and what came of it. -/
def RR (G : Globals) (KT : KTab) (σ : List AV) (β : List Nat) : List (Nat × F × SV) → List (Nat × AV) → Prop
  | [], m => m = []
  | (i, f, v) :: l, m => (evF G σ f = some true ∧ ∃ x m', m = (i, x) :: m' ∧ RS G KT σ β v x ∧ RR G KT σ β l m') ∨ (evF G σ f = some false ∧ RR G KT σ β l m)

theorem RR.ext {σ σ' : List AV} {β β' : List Nat} (hs : Ext σ σ') (hb : ExtN β β') : ∀ {l : List (Nat × F × SV)} {m : List (Nat × AV)}, RR G KT σ β l m → RR G KT σ' β' l m
  | [], m, h => h
  | (i, f, v) :: l, m, h => by
    rcases h with ⟨h1, x, m', h2, h3, h4⟩ | ⟨h1, h2⟩
    · exact .inl ⟨evF_ext hs h1, x, m', h2, RS.ext hs hb _ _ h3, RR.ext hs hb h4⟩
    · exact .inr ⟨evF_ext hs h1, RR.ext hs hb h2⟩

theorem avBeq_int {k : IntKind} {n : Int} : avBeq (.int k n) (.int k n) = true := by
  unfold avBeq
  simp only [decide_true]
  exact intBeq_iff.2 rfl

theorem beqL_refl : ∀ (l : List Nat), beqL l l = true
  | [] => rfl
  | a :: l => by simp only [beqL, Nat.beq_refl]; exact beqL_refl l
theorem again_eq {σ : List AV} {β : List Nat} {v : SV} {x y : AV} (h : againS v = true) (hx : RS G KT σ β v x) (hy : RS G KT σ β v y) : x = y ∧ avBeq x y = true := by
  cases v <;> simp only [againS, reduceCtorEq] at h
  · obtain ⟨a, h1, rfl⟩ := hx
    obtain ⟨b, h2, rfl⟩ := hy
    rw [h1] at h2; cases h2
    exact ⟨rfl, avBeq_int⟩
  · obtain ⟨a, h1, rfl⟩ := hx
    obtain ⟨b, h2, rfl⟩ := hy
    rw [h1] at h2; cases h2
    exact ⟨rfl, by unfold avBeq; exact beq_self_eq_true _⟩
  · obtain ⟨a, h1, rfl⟩ := hx
    obtain ⟨b, h2, rfl⟩ := hy
    rw [h1] at h2; cases h2
    exact ⟨rfl, by unfold avBeq; exact beqL_refl _⟩
  · obtain ⟨h1, h2⟩ := hx
    obtain ⟨h3, _⟩ := hy
    rw [h1] at h3; cases h3
    refine ⟨rfl, ?_⟩
    rcases h2.form with (rfl | rfl) | ⟨g, o, l, c, ks, lim, rfl, _⟩
    · rfl
    · rfl
    · unfold avBeq; simp only [Nat.beq_refl]

theorem sAgain_true {bj : Nat} {S : Sy} {σ : List AV} {β : List Nat} {ft : T AV} {h : T Blk} {g : T (Nat × List Nat)} {n : Nat} {go : Bool} (hH : Holds G KT σ β S ft ⟨h, g, n⟩) : ∀ {l : List (Nat × F × SV)} {m : List (Nat × AV)}, sAgain P KT ops bj S l = true → RR G KT σ β l m →
    againK P G ops bf bj [] ft h g n go m = go
  | [], m, _, hr => by simp only [RR] at hr; subst hr; rfl
  | (i, f, v) :: l, m, hs, hr => by
    unfold sAgain at hs
    split at hs
    · rename_i hbit
      rcases hr with ⟨_, x, m', rfl, _, h4⟩ | ⟨_, h2⟩
      · unfold againK
        rw [hbit]
        exact sAgain_true hH hs h4
      · exact sAgain_true hH hs h2
    · rename_i hbit
      split at hs
      · rename_i hk
        rcases hr with ⟨h1, _⟩ | ⟨_, h2⟩
        · have := known_ok hH.fx hk h1; cases this
        · exact sAgain_true hH hs h2
      · split at hs
        case h_2 => cases hs
        rename_i o ho hag
        split at hs
        case h_2 => cases hs
        rename_i hpure
        obtain ⟨tm, hp, nb, nv, fx⟩ := S
        simp only at hs
        rcases hr with ⟨h1, x, m', rfl, h3, h4⟩ | ⟨_, h2⟩
        · obtain ⟨sv, hp', nb', β', x', st', q1, q2, q3, q4, q5, q6⟩ := sOp_ok (assume_ok hH.fx h1) hH.tr hH.hr hs
          obtain ⟨rfl, rfl⟩ := q6 hpure
          try dsimp only at q1
          split at q1
          case h_2 => cases q1
          rename_i hee
          have hee := SV.beq_eq hee
          subst hee
          obtain ⟨hxx, hb⟩ := again_eq hag h3 q3
          subst hxx
          unfold againK
          rw [hbit]
          simp only [ho, lockAll]
          rw [q2]
          simp only [Nat.beq_refl, hb]
          exact sAgain_true hH q1 h4
        · obtain ⟨sv, hp', nb', q1⟩ := sOp_some hs
          try dsimp only at q1
          split at q1
          case h_2 => cases q1
          exact sAgain_true hH q1 h2

def DrawGoes (P : Program) (G : Globals) (KT : KTab) (σ : List AV) (β : List Nat) (sz : Nat) (ops : Array Oper) (bf : Array Nat) (is : List Nat) (rs : List (Nat × AV)) (ft : T AV) (st : St) (go : Sy → Bool) : Prop :=
  ∃ S' σ' β' ft' st', go S' = true ∧ Holds G KT σ' β' S' ft' st' ∧ Ext σ σ' ∧ ExtN β β' ∧
    ∃ N, ∀ n, N ≤ n → ∀ (dfd : Bool) (up : Option AV) (recd : Bool) (go' : Mv → St → Bool), go' ⟨ft', [], up, recd⟩ st' = true → drawnK P G (run P G n) sz none dfd ops bf is rs [] ⟨ft, [], up, recd⟩ st go' = true

theorem sDrawn_true (hcall : CallOk P G KT call) : ∀ {is : List Nat} {reads : List (Nat × F × SV)} {rs : List (Nat × AV)} {S : Sy} {σ : List AV} {β : List Nat} {ft : T AV} {st : St} {go : Sy → Bool}, Holds G KT σ β S ft st → RR G KT σ β reads rs →
    sDrawn P KT call sz ops bf is reads S go = true → DrawGoes P G KT σ β sz ops bf is rs ft st go
  | [], reads, rs, S, σ, β, ft, st, go, hH, hR, h => ⟨S, σ, β, ft, st, h, hH, Ext.refl _, ExtN.refl _, 0, fun n _ dfd up recd go' hgo => hgo⟩
  | i :: is, reads, rs, S, σ, β, ft, st, go, hH, hR, h => by
    unfold sDrawn at h
    split at h
    case h_1 => cases h
    rename_i o ho
    -- the operation is not run
    have skip : ∀ {S : Sy} {v : SV} {reads : List (Nat × F × SV)}, Holds G KT σ β S ft st → RR G KT σ β reads rs → wantedK ops o ft = false → RS G KT σ β v aundef → setS S sz o.dst v (fun S => sDrawn P KT call sz ops bf is reads S go) = true → DrawGoes P G KT σ β sz ops bf (i :: is) rs ft st go := by
      intro S v reads hH hR hw hv h
      obtain ⟨S1, ft1, h1, h2, _, _, _, _, h3⟩ := setS_true (x := aundef) hH hv h
      obtain ⟨S', σ', β', ft', st', q1, q2, q3, q4, N, q5⟩ := sDrawn_true hcall h2 hR h1
      refine ⟨S', σ', β', ft', st', q1, q2, q3, q4, N, fun n hn dfd up recd go' hgo => ?_⟩
      obtain ⟨hp, g, nx⟩ := st
      simp only [drawnK, ho, hw]
      rw [h3]
      exact q5 n hn dfd up recd go' hgo
    split at h
    case h_1 => cases h
    rename_i f hf
    have hw := wantF_true hH.fx hH.tr hf
    split at h
    · rename_i hk
      have := knownX_ok hH.fx hk hw
      exact skip hH hR this (show RS G KT σ β (.lit aundef) aundef from rfl) h
    · rename_i hkn
      -- the value that is laid
      have lay : ∀ {v : SV} {x : AV} {b : Bool}, evF G σ f = some b → (b = true → RS G KT σ β v x) → (b = false → x = aundef) → RS G KT σ β (match knownX S.fx f with | some true => v | _ => .gd f v) x := by
        intro v x b hb h1 h2
        split
        · rename_i hkn'
          exact h1 (knownX_ok hH.fx hkn' hb)
        · exact ⟨b, hb, h1, h2⟩
      split at h
      · rename_i hkind
        obtain ⟨tm, hp, nb, nv, fx⟩ := S
        simp only at h
        have hpure : isPure o = true := by unfold isPure; rw [hkind]
        cases hwv : wantedK ops o ft with
        | true =>
          rw [hwv] at hw
          have hr0 : HR G KT σ β .leaf nb ⟨.leaf, .leaf, st.next⟩ := ⟨hH.hr.len, rfl, hH.hr.lt, (fun b sb hb => by rw [leaf_get] at hb; cases hb), (fun b b1 sb sb1 id hb => by rw [leaf_get] at hb; cases hb)⟩
          obtain ⟨sv, hp', nb', β', x, st', h1, h2, h3, h4, h5, h6⟩ := sOp_ok (assume_ok hH.fx hw) hH.tr hr0 h
          obtain ⟨hst, rfl⟩ := h6 hpure
          subst hst
          try dsimp only at h1
          split at h1
          case h_2 => cases h1
          obtain ⟨S2, ft2, r1, r2, _, _, _, _, r3⟩ := setS_true hH (lay hw (fun _ => h3) (fun e => by cases e)) h1
          obtain ⟨S', σ', β', ft', st', q1, q2, q3, q4, N, q5⟩ := sDrawn_true hcall r2 hR r1
          refine ⟨S', σ', β', ft', st', q1, q2, q3, q4, N, fun n hn dfd up recd go' hgo => ?_⟩
          obtain ⟨hpp, g, nx⟩ := st
          simp only [drawnK, ho, hwv, hkind]
          simp only at h2
          rw [h2]
          simp only [Nat.beq_refl]
          rw [r3]
          exact q5 n hn dfd up recd go' hgo
        | false =>
          rw [hwv] at hw
          obtain ⟨sv, hp', nb', h1⟩ := sOp_some h
          try dsimp only at h1
          split at h1
          case h_2 => cases h1
          exact skip hH hR hwv (lay hw (fun e => by cases e) (fun _ => rfl)) h1
      · rename_i hkind
        obtain ⟨tm, hp, nb, nv, fx⟩ := S
        simp only at h
        have hpure : isPure o = true := by unfold isPure; rw [hkind]
        cases hwv : wantedK ops o ft with
        | true =>
          rw [hwv] at hw
          obtain ⟨sv, hp', nb', β', x, st', h1, h2, h3, h4, h5, h6⟩ := sOp_ok (assume_ok hH.fx hw) hH.tr hH.hr h
          obtain ⟨hst, rfl⟩ := h6 hpure
          subst hst
          try dsimp only at h1
          split at h1
          case h_2 => cases h1
          obtain ⟨S2, ft2, r1, r2, _, _, _, _, r3⟩ := setS_true hH (lay hw (fun _ => h3) (fun e => by cases e)) h1
          obtain ⟨S', σ', β', ft', st', q1, q2, q3, q4, N, q5⟩ := sDrawn_true hcall r2 (reads := (i, f, sv) :: reads) (rs := (i, x) :: rs) (Or.inl ⟨hw, x, rs, rfl, h3, hR⟩) r1
          refine ⟨S', σ', β', ft', st', q1, q2, q3, q4, N, fun n hn dfd up recd go' hgo => ?_⟩
          rename_i st0 _ _
          obtain ⟨hpp, g, nx⟩ := st0
          simp only [drawnK, ho, hwv, hkind, lockAll]
          rw [h2]
          simp only [Nat.beq_refl]
          rw [r3]
          exact q5 n hn dfd up recd go' hgo
        | false =>
          rw [hwv] at hw
          obtain ⟨sv, hp', nb', h1⟩ := sOp_some h
          try dsimp only at h1
          split at h1
          case h_2 => cases h1
          exact skip (reads := (i, f, sv) :: reads) hH (Or.inr ⟨hw, hR⟩) hwv (lay hw (fun e => by cases e) (fun _ => rfl)) h1
      · rename_i hkind
        split at h
        case h_2 => cases h
        rename_i hafter
        have goes : ∀ {S : Sy}, Holds G KT σ β S ft st → wantedK ops o ft = true → (sDo P KT call o S fun v S => setS S sz o.dst v fun S => match sAgain P KT ops (bf.getD i 0) S reads with
                | true => sDrawn P KT call sz ops bf is reads S go
                | false => false) = true → DrawGoes P G KT σ β sz ops bf (i :: is) rs ft st go := by
          intro S hH hwv h
          obtain ⟨sv, S1, σ1, β1, st1, x, h1, h2, h3, h4, h5, N1, h6⟩ := sDo_true hcall hH h
          obtain ⟨S2, ft2, r1, r2, _, _, _, _, r3⟩ := setS_true h3 h2 h1
          split at r1
          case h_2 => cases r1
          rename_i hag
          have hR1 := hR.ext h4 h5
          obtain ⟨S', σ', β', ft', st', q1, q2, q3, q4, N2, q5⟩ := sDrawn_true hcall r2 hR1 r1
          refine ⟨S', σ', β', ft', st', q1, q2, h4.trans q3, h5.trans q4, max N1 N2, fun n hn dfd up recd go' hgo => ?_⟩
          obtain ⟨hpp, g, nx⟩ := st
          obtain ⟨hpp1, g1, nx1⟩ := st1
          simp only [drawnK, ho, hwv, hkind, hafter, badDefer, lockAll]
          refine h6 n (by omega) sz dfd ⟨ft, [], up, recd⟩ _ _ rfl ?_
          rw [r3]
          simp only [unlockAll]
          rw [sAgain_true r2 hag hR1]
          exact q5 n (by omega) dfd up recd go' hgo
        simp only at h
        split at h
        · rename_i hkt
          have hwv : wantedK ops o ft = true := knownX_ok hH.fx hkt hw
          exact goes hH hwv h
        · split at h
          case h_2 => cases h
          rename_i h1
          cases hwv : wantedK ops o ft with
          | true =>
            rw [hwv] at hw
            obtain ⟨S', q1, q2⟩ := assumeS_true hH hw h1
            exact goes q2 hwv q1
          | false =>
            rw [hwv] at hw
            obtain ⟨S', q1, q2⟩ := assumeS_true hH hw h
            exact skip q2 hR hwv (show RS G KT σ β (.lit aundef) aundef from rfl) q1
      · cases h
end
end
end Go.Sym
/- Loops with unknowns: the head's state, out of what a round leaves. -/
namespace Go.Sym
open Go Go.Shd
noncomputable section

section
variable {P : Program} {G : Globals} {KT : KTab} {σ σ' : List AV} {β β' : List Nat}

theorem ev_back (hs : Ext σ σ') {e : E} {a b : AV} (h : ev G σ e = some a) (h' : ev G σ' e = some b) : a = b := by
  have := ev_ext hs h
  rw [h'] at this; cases this; rfl
theorem evF_back (hs : Ext σ σ') {e : F} {a b : Bool} (h : evF G σ e = some a) (h' : evF G σ' e = some b) : a = b := by
  have := evF_ext hs h
  rw [h'] at this; cases this; rfl
theorem get_back (hb : ExtN β β') {n a b : Nat} (h : β[n]? = some a) (h' : β'[n]? = some b) : a = b := by
  have := hb.get h
  rw [h'] at this; cases this; rfl

mutual
/-- What stands for a value later on, and stood for one before, stands for it before. -/
theorem RS.back (hs : Ext σ σ') (hb : ExtN β β') : ∀ {s : SV} {x0 x : AV}, RS G KT σ β s x0 → RS G KT σ' β' s x → RS G KT σ β s x
  | .lit a, x0, x, _, h => h
  | .int k e, x0, x, h0, h => by
    obtain ⟨n, h1, _⟩ := h0; obtain ⟨m, h2, h3⟩ := h
    have := ev_back hs h1 h2; cases this
    exact ⟨n, h1, h3⟩
  | .bool f, x0, x, h0, h => by
    obtain ⟨n, h1, _⟩ := h0; obtain ⟨m, h2, h3⟩ := h
    have := evF_back hs h1 h2; cases this
    exact ⟨n, h1, h3⟩
  | .str e, x0, x, h0, h => by
    obtain ⟨n, h1, _⟩ := h0; obtain ⟨m, h2, h3⟩ := h
    have := ev_back hs h1 h2; cases this
    exact ⟨n, h1, h3⟩
  | .sl t e, x0, x, h0, h => by
    have := ev_back hs h0.1 h.1
    subst this
    exact h0
  | .sub t e q, x0, x, h0, h => by
    obtain ⟨y, n, m, h1, h2, h3, h4, h5, _⟩ := h0
    obtain ⟨y', n', m', q1, q2, q3, q4, q5, q6⟩ := h
    have := ev_back hs h1 q1; subst this
    rw [h3] at q3; cases q3
    have := ev_back hs h4 q4
    simp only [AV.int.injEq, true_and] at this
    have := Int.ofNat.inj this
    subst this
    exact ⟨y, n, m, h1, h2, h3, h4, h5, q6⟩
  | .em b, x0, x, h0, h => by
    obtain ⟨id, h1, _⟩ := h0; obtain ⟨id', h2, h3⟩ := h
    have := get_back hb h1 h2; subst this
    exact ⟨id, h1, h3⟩
  | .cpy t b e, x0, x, h0, h => by
    obtain ⟨id, y, n, lb, ex, h1, h2, h3, h4, _⟩ := h0
    obtain ⟨id', y', n', lb', ex', q1, q2, q3, q4, q5⟩ := h
    have := get_back hb h1 q1; subst this
    have := ev_back hs h2 q2; subst this
    rw [h4] at q4; cases q4
    exact ⟨id, y, n, lb', ex', h1, h2, h3, h4, q5⟩
  | .ptr b off, x0, x, h0, h => by
    obtain ⟨id, h1, _⟩ := h0; obtain ⟨id', h2, h3⟩ := h
    have := get_back hb h1 h2; subst this
    exact ⟨id, h1, h3⟩
  | .mp t e i off, x0, x, h0, h => by
    obtain ⟨g, o, l, c, k, j, ks, lim, h1, h2, h3, h4, h5, _⟩ := h0
    obtain ⟨g', o', l', c', k', j', ks', lim', q1, q2, q3, q4, q5, q6⟩ := h
    have := ev_back hs h1 q1; cases this
    have := ev_back hs h3 q3
    simp only [AV.int.injEq] at this
    have := Int.ofNat.inj this.2
    subst this
    rw [h5] at q5; cases q5
    exact ⟨g, o, l, c, k, j, ks, lim, h1, h2, h3, h4, h5, q6⟩
  | .cp t e i b, x0, x, h0, h => by
    obtain ⟨id, y, n, k, j, h1, h2, h3, h4, h5, h6, _⟩ := h0
    obtain ⟨id', y', n', k', j', q1, q2, q3, q4, q5, q6, q7⟩ := h
    have := get_back hb h1 q1; subst this
    have := ev_back hs h2 q2; subst this
    have := ev_back hs h5 q5
    simp only [AV.int.injEq] at this
    have := Int.ofNat.inj this.2
    subst this
    exact ⟨id, y, n, k, j, h1, h2, h3, h4, h5, h6, q7⟩
  | .agg l, x0, x, h0, h => by
    obtain ⟨xs, _, h1⟩ := h0; obtain ⟨ys, h2, h3⟩ := h
    exact ⟨ys, h2, RSs.back hs hb h1 h3⟩
  | .tup l, x0, x, h0, h => by
    obtain ⟨xs, _, h1⟩ := h0; obtain ⟨ys, h2, h3⟩ := h
    exact ⟨ys, h2, RSs.back hs hb h1 h3⟩
  | .gd f s, x0, x, h0, h => by
    obtain ⟨b, h1, h2, _⟩ := h0; obtain ⟨b', q1, q2, q3⟩ := h
    have := evF_back hs h1 q1; subst this
    exact ⟨b, h1, fun e => RS.back hs hb (h2 e) (q2 e), q3⟩
theorem RSs.back (hs : Ext σ σ') (hb : ExtN β β') : ∀ {s : List SV} {x0 x : List AV}, RSs G KT σ β s x0 → RSs G KT σ' β' s x → RSs G KT σ β s x
  | [], x0, x, _, h => h
  | a :: l, x0, x, h0, h => by
    obtain ⟨y, m, _, h1, h2⟩ := h0; obtain ⟨y', m', rfl, q1, q2⟩ := h
    exact ⟨y', m', rfl, RS.back hs hb h1 q1, RSs.back hs hb h2 q2⟩
end
end

/-! ### The head's state as a function -/
def keepR (tm : T SV) : List Tmp → T SV → T SV
  | [], r => r
  | t :: l, r => match tm.get (key t) with
    | some v => keepR tm l (T.set (some v) (key t) r)
    | none => keepR tm l r
theorem keepS_eq {tm : T SV} : ∀ {l : List Tmp} {r : T SV} {K : T SV → Bool}, keepS tm l r K = K (keepR tm l r)
  | [], r, K => rfl
  | t :: l, r, K => by
    cases ht : tm.get (key t) with
    | some v => simp only [keepS, keepR, ht, T.setK_eq]; exact keepS_eq
    | none => simp only [keepS, keepR, ht]; exact keepS_eq

def havR (tm : T SV) : List Tmp → T SV → Nat → Option (T SV × Nat)
  | [], r, nv => some (r, nv)
  | t :: l, r, nv => match tm.get (key t) with
    | some (.int k _) => havR tm l (T.set (some (.int k (.v nv))) (key t) r) (nv + 1)
    | some (.bool _) => havR tm l (T.set (some (.bool (.atom (.v nv)))) (key t) r) (nv + 1)
    | _ => none
theorem havS_true {tm : T SV} : ∀ {l : List Tmp} {r : T SV} {nv : Nat} {K : T SV → Nat → Bool}, havS tm l r nv K = true → ∃ r' nv', havR tm l r nv = some (r', nv') ∧ K r' nv' = true
  | [], r, nv, K, h => ⟨r, nv, rfl, h⟩
  | t :: l, r, nv, K, h => by
    unfold havS at h
    unfold havR
    split at h
    · rename_i k e ht
      rw [T.setK_eq, natK_eq] at h
      first | (rw [ht]; exact havS_true h) | exact havS_true h
    · rename_i f ht
      rw [T.setK_eq, natK_eq] at h
      first | (rw [ht]; exact havS_true h) | exact havS_true h
    · cases h

def havCR : List SV → Nat → Option (List SV × Nat)
  | [], nv => some ([], nv)
  | .int k _ :: l, nv => match havCR l (nv + 1) with
    | some (r, nv') => some (.int k (.v nv) :: r, nv')
    | none => none
  | _ :: _, _ => none
theorem havCells_true : ∀ {l : List SV} {nv : Nat} {K : List SV → Nat → Bool}, havCells l nv K = true → ∃ r nv', havCR l nv = some (r, nv') ∧ K r nv' = true
  | [], nv, K, h => ⟨[], nv, rfl, h⟩
  | .int k e :: l, nv, K, h => by
    simp only [havCells, natK_eq] at h
    obtain ⟨r, nv', h1, h2⟩ := havCells_true h
    exact ⟨_, nv', by simp only [havCR, show nv + 1 = nv.succ from rfl, h1], h2⟩
  | .lit _ :: _, _, _, h => by cases h
  | .bool _ :: _, _, _, h => by cases h
  | .str _ :: _, _, _, h => by cases h
  | .sl _ _ :: _, _, _, h => by cases h
  | .sub _ _ _ :: _, _, _, h => by cases h
  | .em _ :: _, _, _, h => by cases h
  | .cpy _ _ _ :: _, _, _, h => by cases h
  | .ptr _ _ :: _, _, _, h => by cases h
  | .mp _ _ _ _ :: _, _, _, h => by cases h
  | .cp _ _ _ _ :: _, _, _, h => by cases h
  | .agg _ :: _, _, _, h => by cases h
  | .tup _ :: _, _, _, h => by cases h
  | .gd _ _ :: _, _, _, h => by cases h

def havBR (tm : T SV) : List Tmp → T SB → Nat → Option (T SB × Nat)
  | [], hp, nv => some (hp, nv)
  | t :: l, hp, nv => match tm.get (key t) with
    | some (.ptr b _) => match hp.get (key b) with
      | some (.cells e cs) => match havCR cs nv with
        | some (cs', nv') => havBR tm l (T.set (some (.cells e cs')) (key b) hp) nv'
        | none => none
      | _ => none
    | _ => none
theorem havBlk_true {tm : T SV} : ∀ {l : List Tmp} {hp : T SB} {nv : Nat} {K : T SB → Nat → Bool}, havBlk tm l hp nv K = true → ∃ hp' nv', havBR tm l hp nv = some (hp', nv') ∧ K hp' nv' = true
  | [], hp, nv, K, h => ⟨hp, nv, rfl, h⟩
  | t :: l, hp, nv, K, h => by
    unfold havBlk at h
    split at h
    case h_2 => cases h
    rename_i b o ht
    split at h
    case h_2 => cases h
    rename_i e cs hb
    obtain ⟨cs', nv', h1, h2⟩ := havCells_true h
    rw [T.setK_eq] at h2
    obtain ⟨hp', nv'', h3, h4⟩ := havBlk_true h2
    exact ⟨hp', nv'', by unfold havBR; rw [ht]; simp only [hb, h1]; exact h3, h4⟩

def allR (KT : KTab) (S : Sy) (c : E) : List (Bd × Bd) → Option (List (E × E × E))
  | [] => some []
  | (s, h) :: l => match sliceOf S s, boundOf KT S h, allR KT S c l with
    | some s, some h, some r => some ((s, c, h) :: r)
    | _, _, _ => none
theorem allS_true {KT : KTab} {S : Sy} {c : E} : ∀ {l : List (Bd × Bd)} {K : List (E × E × E) → Bool}, allS KT S c l K = true → ∃ r, allR KT S c l = some r ∧ K r = true
  | [], K, h => ⟨[], rfl, h⟩
  | (s, q) :: l, K, h => by
    unfold allS at h
    split at h
    case h_2 => cases h
    rename_i s' h' hs hh
    obtain ⟨r, h1, h2⟩ := allS_true h
    exact ⟨_, by unfold allR; rw [hs, hh, h1], h2⟩
end
end Go.Sym
/- Loops with unknowns: the head is met at the entry and behind each round. -/
namespace Go.Sym
open Go Go.Shd
noncomputable section
section
variable {P : Program} {G : Globals} {KT : KTab}

theorem TR.set {σ : List AV} {β : List Nat} {r : T SV} {ft : T AV} {t : Tmp} {s : SV} {x : AV} (h : TR G KT σ β r ft) (hx : ft.get (key t) = some x) (hs : RS G KT σ β s x) : TR G KT σ β (T.set (some s) (key t) r) ft := by
  intro t' s' h'
  rw [T.get_set] at h'
  split at h'
  · rename_i e; subst e; cases h'; exact ⟨x, hx, hs⟩
  · exact h t' s' h'

theorem keepR_TR {σ : List AV} {β : List Nat} {tm : T SV} {ft : T AV} : ∀ {l : List Tmp} {r : T SV}, TR G KT σ β r ft → (∀ t ∈ l, ∀ s, tm.get (key t) = some s → ∃ x, ft.get (key t) = some x ∧ RS G KT σ β s x) → TR G KT σ β (keepR tm l r) ft
  | [], r, h, _ => h
  | t :: l, r, h, hk => by
    unfold keepR
    split
    · rename_i v hv
      obtain ⟨x, h1, h2⟩ := hk t List.mem_cons_self v hv
      exact keepR_TR (h.set h1 h2) fun t' ht' => hk t' (List.mem_cons_of_mem _ ht')
    · exact keepR_TR h fun t' ht' => hk t' (List.mem_cons_of_mem _ ht')

/-- A temporary is of its kind. -/
def KindOk (tm : T SV) (ft : T AV) (t : Tmp) : Prop :=
  (∀ k e, tm.get (key t) = some (.int k e) → ∃ z, ft.get (key t) = some (.int k z)) ∧ (∀ f, tm.get (key t) = some (.bool f) → ∃ b, ft.get (key t) = some (.lit (.bool b)))

theorem havR_TR {tm : T SV} {ft : T AV} {β : List Nat} : ∀ {l : List Tmp} {r r' : T SV} {nv nv' : Nat} {σ : List AV}, havR tm l r nv = some (r', nv') → σ.length = nv → TR G KT σ β r ft → (∀ t ∈ l, KindOk tm ft t) →
    ∃ τ, (σ ++ τ).length = nv' ∧ TR G KT (σ ++ τ) β r' ft
  | [], r, r', nv, nv', σ, h, hn, ht, _ => by cases h; exact ⟨[], by simpa using hn, by simpa using ht⟩
  | t :: l, r, r', nv, nv', σ, h, hn, ht, hk => by
    have hk1 := hk t List.mem_cons_self
    have hk2 : ∀ t' ∈ l, KindOk tm ft t' := fun t' ht' => hk t' (List.mem_cons_of_mem _ ht')
    have step : ∀ {x : AV} {s : SV}, ft.get (key t) = some x → RS G KT (σ ++ [x]) β s x → havR tm l (T.set (some s) (key t) r) (nv + 1) = some (r', nv') → ∃ τ, (σ ++ τ).length = nv' ∧ TR G KT (σ ++ τ) β r' ft := by
      intro x s hx hs h
      have he : Ext σ (σ ++ [x]) := ⟨_, rfl⟩
      obtain ⟨τ, h1, h2⟩ := havR_TR h (by simp [hn]) ((ht.ext he (ExtN.refl _)).set hx hs) hk2
      exact ⟨[x] ++ τ, by rw [← List.append_assoc]; exact h1, by rw [← List.append_assoc]; exact h2⟩
    have hget : ∀ x : AV, (σ ++ [x])[nv]? = some x := fun x => by rw [← hn]; simp
    unfold havR at h
    split at h
    · rename_i k e hte
      obtain ⟨z, hz⟩ := hk1.1 k e hte
      exact step (s := .int k (.v nv)) hz ⟨z, hget _, rfl⟩ h
    · rename_i f hte
      obtain ⟨b, hb⟩ := hk1.2 f hte
      refine step (s := .bool (.atom (.v nv))) hb ⟨b, ?_, rfl⟩ h
      have : ev G (σ ++ [AV.lit (Value.bool b)]) (.v nv) = some (.lit (.bool b)) := hget _
      simp only [evF, this]
    · cases h

/-- Cells of numbers. -/
def KO : List SV → List AV → Prop
  | [], m => m = []
  | .int k _ :: l, m => ∃ z m', m = .int k z :: m' ∧ KO l m'
  | _ :: _, _ => False

theorem KO.of_RSs {σ : List AV} {β : List Nat} : ∀ {cs : List SV} {xs : List AV} {nv : Nat} {r : List SV × Nat}, RSs G KT σ β cs xs → havCR cs nv = some r → KO cs xs
  | [], xs, nv, r, h, _ => h
  | .int k e :: l, xs, nv, r, h, hc => by
    obtain ⟨y, m, rfl, ⟨z, _, rfl⟩, h2⟩ := h
    unfold havCR at hc
    split at hc
    · rename_i r' nv' h1; exact ⟨z, m, rfl, KO.of_RSs h2 h1⟩
    · cases hc
  | .lit _ :: _, _, _, _, _, h => by cases h
  | .bool _ :: _, _, _, _, _, h => by cases h
  | .str _ :: _, _, _, _, _, h => by cases h
  | .sl _ _ :: _, _, _, _, _, h => by cases h
  | .sub _ _ _ :: _, _, _, _, _, h => by cases h
  | .em _ :: _, _, _, _, _, h => by cases h
  | .cpy _ _ _ :: _, _, _, _, _, h => by cases h
  | .ptr _ _ :: _, _, _, _, _, h => by cases h
  | .mp _ _ _ _ :: _, _, _, _, _, h => by cases h
  | .cp _ _ _ _ :: _, _, _, _, _, h => by cases h
  | .agg _ :: _, _, _, _, _, h => by cases h
  | .tup _ :: _, _, _, _, _, h => by cases h
  | .gd _ _ :: _, _, _, _, _, h => by cases h

theorem havCR_RSs {β : List Nat} : ∀ {cs : List SV} {xs : List AV} {nv nv' : Nat} {cs' : List SV} {σ : List AV}, havCR cs nv = some (cs', nv') → σ.length = nv → KO cs xs → ∃ τ, (σ ++ τ).length = nv' ∧ RSs G KT (σ ++ τ) β cs' xs
  | [], xs, nv, nv', cs', σ, h, hn, hk => by
    cases h
    simp only [KO] at hk
    subst hk
    exact ⟨[], by simpa using hn, rfl⟩
  | .int k e :: l, xs, nv, nv', cs', σ, h, hn, hk => by
    obtain ⟨z, m, rfl, hk⟩ := hk
    unfold havCR at h
    split at h
    case h_2 => cases h
    rename_i r nv1 h1
    cases h
    obtain ⟨τ, h2, h3⟩ := havCR_RSs (σ := σ ++ [.int k z]) h1 (by simp [hn]) hk
    refine ⟨[.int k z] ++ τ, by rw [← List.append_assoc]; exact h2, ?_⟩
    rw [← List.append_assoc]
    refine ⟨_, m, rfl, ⟨z, ?_, rfl⟩, h3⟩
    show (σ ++ [AV.int k z] ++ τ)[nv]? = _
    rw [← hn]; simp
  | .lit _ :: _, _, _, _, _, _, _, _, h => by cases h
  | .bool _ :: _, _, _, _, _, _, _, _, h => by cases h
  | .str _ :: _, _, _, _, _, _, _, _, h => by cases h
  | .sl _ _ :: _, _, _, _, _, _, _, _, h => by cases h
  | .sub _ _ _ :: _, _, _, _, _, _, _, _, h => by cases h
  | .em _ :: _, _, _, _, _, _, _, _, h => by cases h
  | .cpy _ _ _ :: _, _, _, _, _, _, _, _, h => by cases h
  | .ptr _ _ :: _, _, _, _, _, _, _, _, h => by cases h
  | .mp _ _ _ _ :: _, _, _, _, _, _, _, _, h => by cases h
  | .cp _ _ _ _ :: _, _, _, _, _, _, _, _, h => by cases h
  | .agg _ :: _, _, _, _, _, _, _, _, h => by cases h
  | .tup _ :: _, _, _, _, _, _, _, _, h => by cases h
  | .gd _ _ :: _, _, _, _, _, _, _, _, h => by cases h

/-- The heap, but for the blocks that are yet to be made unknown. -/
structure HX (G : Globals) (KT : KTab) (bs : List Nat) (σ : List AV) (β : List Nat) (hp : T SB) (nb : Nat) (st : St) : Prop where
  len : β.length = nb
  grps : st.grps = .leaf
  lt : ∀ id ∈ β, id < st.next
  blk : ∀ b sb, hp.get (key b) = some sb → (b ∈ bs ∧ ∃ e cs id xs, sb = .cells e cs ∧ β[b]? = some id ∧ st.heap.get (key id) = some (.cells xs e (0, 0) id none) ∧ KO cs xs) ∨ ∃ id, β[b]? = some id ∧ BRel G KT σ β st id sb
  inj : ∀ b b' sb sb' id, hp.get (key b) = some sb → hp.get (key b') = some sb' → β[b]? = some id → β[b']? = some id → b = b'

theorem havBR_HR {tm : T SV} {β : List Nat} {nb : Nat} {st : St} : ∀ {l : List Tmp} {hp hp' : T SB} {nv nv' : Nat} {σ : List AV}, havBR tm l hp nv = some (hp', nv') → σ.length = nv → HX G KT (blkNums tm l) σ β hp nb st →
    ∃ τ, (σ ++ τ).length = nv' ∧ HR G KT (σ ++ τ) β hp' nb st
  | [], hp, hp', nv, nv', σ, h, hn, hx => by
    cases h
    refine ⟨[], by simpa using hn, by
      rw [List.append_nil]
      refine ⟨hx.len, hx.grps, hx.lt, fun b sb hb => ?_, hx.inj⟩
      rcases hx.blk b sb hb with ⟨hm, _⟩ | h
      · cases hm
      · exact h⟩
  | t :: l, hp, hp', nv, nv', σ, h, hn, hx => by
    unfold havBR at h
    split at h
    case h_2 => cases h
    rename_i b o hte
    split at h
    case h_2 => cases h
    rename_i e cs hb
    split at h
    case h_2 => cases h
    rename_i cs' nv1 hc
    have hbn : blkNums tm (t :: l) = b :: blkNums tm l := by simp only [blkNums, hte]
    obtain ⟨id, xs, hid, hst, hko⟩ : ∃ id xs, β[b]? = some id ∧ st.heap.get (key id) = some (.cells xs e (0, 0) id none) ∧ KO cs xs := by
      rcases hx.blk b _ hb with ⟨_, e', cs1, id, xs, h1, h2, h3, h4⟩ | ⟨id, h1, xs, h2, h3⟩
      · cases h1; exact ⟨id, xs, h2, h3, h4⟩
      · exact ⟨id, xs, h1, h2, KO.of_RSs h3 hc⟩
    obtain ⟨τ, h1, h2⟩ := havCR_RSs (G := G) (KT := KT) (β := β) hc hn hko
    have he : Ext σ (σ ++ τ) := ⟨_, rfl⟩
    have hx' : HX G KT (blkNums tm l) (σ ++ τ) β (T.set (some (.cells e cs')) (key b) hp) nb st := by
      have back : ∀ {b' : Nat} {s : SB}, (T.set (some (.cells e cs')) (key b) hp).get (key b') = some s → ∃ s', hp.get (key b') = some s' := by
        intro b' s h
        rw [T.get_set] at h
        split at h
        · rename_i e1; subst e1; exact ⟨_, hb⟩
        · exact ⟨_, h⟩
      refine ⟨hx.len, hx.grps, hx.lt, fun b' sb hb' => ?_, fun b1 b2 s1 s2 i q1 q2 q3 q4 => ?_⟩
      · rw [T.get_set] at hb'
        split at hb'
        · rename_i e1; subst e1; cases hb'
          exact .inr ⟨id, hid, xs, hst, h2⟩
        · rename_i hne
          rcases hx.blk b' sb hb' with ⟨hm, q⟩ | ⟨id', q1, q2⟩
          · rw [hbn] at hm
            rcases List.mem_cons.1 hm with e1 | hm
            · exact absurd e1 hne
            · exact .inl ⟨hm, q⟩
          · exact .inr ⟨id', q1, q2.ext he (ExtN.refl _)⟩
      · obtain ⟨s1', r1⟩ := back q1
        obtain ⟨s2', r2⟩ := back q2
        exact hx.inj b1 b2 _ _ i r1 r2 q3 q4
    obtain ⟨τ', h3, h4⟩ := havBR_HR h h1 hx'
    exact ⟨τ ++ τ', by rw [← List.append_assoc]; exact h3, by rw [← List.append_assoc]; exact h4⟩
end
end
end Go.Sym
/- Loops with unknowns: bounds, counters, the head made anew. -/
namespace Go.Sym
open Go Go.Shd
noncomputable section
section
variable {P : Program} {G : Globals} {KT : KTab} {σ : List AV} {β : List Nat} {S : Sy} {ft : T AV} {st : St}

theorem Sl.lim {t : TypeId} {a : AV} {ks : List CK} {lim : Nat} (h : Sl G KT t a) (hk : KT.get (key t) = some (ks, lim)) : ∃ n, lenAt a = some n ∧ n ≤ lim := by
  rcases h.form with (rfl | rfl) | ⟨g, o, l, c, ks', lim', rfl, _, h2, h3⟩
  · exact ⟨0, rfl, Nat.zero_le _⟩
  · exact ⟨0, rfl, Nat.zero_le _⟩
  · rw [hk] at h2; cases h2; exact ⟨l, rfl, h3⟩

theorem ev_lenO {e : E} {a : AV} {n : Nat} (h : ev G σ e = some a) (hl : lenAt a = some n) : ev G σ (.len e) = some (.int .i64 (Int.ofNat n)) := by
  simp only [ev, h, hl, Option.map_some]

theorem boundOf_ok (hH : Holds G KT σ β S ft st) {b : Bd} {B : E} (h : boundOf KT S b = some B) : ∃ v : Nat, ev G σ B = some (.int .i64 (Int.ofNat v)) ∧ v ≤ 4611686018427387904 := by
  have lim : ∀ {te : TypeId} {a : AV}, Sl G KT te a → ∀ {e : E}, ev G σ e = some a → ∀ {p : List CK × Nat}, KT.get (key te) = some p → Nat.ble p.2 bigLen = true → ∃ v : Nat, ev G σ (.len e) = some (.int .i64 (Int.ofNat v)) ∧ v ≤ 4611686018427387904 := by
    intro te a hs e he p hp hb
    obtain ⟨n, h1, h2⟩ := hs.lim (ks := p.1) (lim := p.2) hp
    exact ⟨n, ev_lenO he h1, Nat.le_trans h2 (Nat.le_of_ble_eq_true hb)⟩
  unfold boundOf at h
  split at h
  · split at h
    · rename_i te e ht
      obtain ⟨x, _, h1, h2⟩ := hH.tr _ _ ht
      split at h
      case h_2 => cases h
      rename_i q lm hk
      split at h
      case h_2 => cases h
      rename_i hb
      cases h
      exact lim h2 h1 hk hb
    · rename_i te e q ht
      obtain ⟨x, _, y, n, m, h1, h2, h3, h4, h5, _⟩ := hH.tr _ _ ht
      split at h
      case h_2 => cases h
      rename_i ks lm hk
      split at h
      case h_2 => cases h
      rename_i hb
      cases h
      obtain ⟨n', r1, r2⟩ := h2.lim hk
      rw [h3] at r1; cases r1
      have := Nat.le_of_ble_eq_true hb
      refine ⟨m, h4, ?_⟩
      have : bigLen = 4611686018427387904 := rfl
      omega
    · rename_i te b' e ht
      obtain ⟨x, _, id, y, n, lb, ex, _, h1, h2, h3, _⟩ := hH.tr _ _ ht
      split at h
      case h_2 => cases h
      rename_i q lm hk
      split at h
      case h_2 => cases h
      rename_i hb
      cases h
      exact lim h2 h1 hk hb
    · rename_i e ht
      obtain ⟨x, _, l, h1, _⟩ := hH.tr _ _ ht
      split at h
      case h_2 => cases h
      rename_i hb
      cases h
      have h2 : ev G σ (.len e) = some (.int .i64 (Int.ofNat l.length)) := ev_lenO h1 rfl
      refine ⟨l.length, h2, ?_⟩
      have h3 : iv G σ (.len e) = some (Int.ofNat l.length) := by unfold iv; rw [h2]
      have h4 := intLe_iff.1 hb
      have := high_lt (d := 0) (c := 4611686018427387905) (r := (· ≤ ·)) (fun x y h => by simpa using h) h3 (m := bigPos) hH.fx.le (fun h => by unfold bigPos at h; omega) (by omega)
      have : ((l.length : Nat) : Int) < 4611686018427387905 := this
      omega
    · cases h
  · split at h
    case h_2 => cases h
    rename_i b' o ht
    split at h
    case h_2 => cases h
    rename_i ty l hb'
    split at h
    case h_2 => cases h
    rename_i te e hl
    split at h
    case h_2 => cases h
    rename_i q lm hk
    split at h
    case h_2 => cases h
    rename_i hb
    cases h
    obtain ⟨id, _, cs, _, h2⟩ := hH.hr.blk _ _ hb'
    obtain ⟨x, _, h3, h4⟩ := h2.get hl
    exact lim h4 h3 hk hb

theorem sliceOf_ok (hH : Holds G KT σ β S ft st) {b : Bd} {e : E} (h : sliceOf S b = some e) : ∃ a, ev G σ e = some a := by
  unfold sliceOf at h
  split at h
  · split at h
    · rename_i te e ht
      cases h
      obtain ⟨x, _, h1, h2⟩ := hH.tr _ _ ht
      exact ⟨_, h1⟩
    · rename_i te b' e ht
      cases h
      obtain ⟨x, _, id, y, n, lb, ex, _, h1, h2, h3, _⟩ := hH.tr _ _ ht
      exact ⟨_, h1⟩
    · cases h
  · split at h
    case h_2 => cases h
    rename_i b' o ht
    split at h
    case h_2 => cases h
    rename_i ty l hb'
    split at h
    case h_2 => cases h
    rename_i te e hl
    cases h
    obtain ⟨id, _, cs, _, h2⟩ := hH.hr.blk _ _ hb'
    obtain ⟨x, _, h3, h4⟩ := h2.get hl
    exact ⟨_, h3⟩

theorem low_def {a : E} {r : Int → Int → Prop} {d : Int} : ∀ {l : List (E × E)} {m : Int}, (∀ p ∈ l, P2 G σ r p) → m < 0 → intLe 0 (lowOf a l d m) = true → ∃ v, iv G σ a = some v
  | [], m, _, hm, h => by have := intLe_iff.1 h; simp only [lowOf] at this; omega
  | (x, y) :: l, m, hl, hm, h => by
    have hl' := fun p hp => hl p (List.mem_cons_of_mem _ hp)
    obtain ⟨u, w, h1, h2, _⟩ := hl (x, y) List.mem_cons_self
    unfold lowOf at h
    split at h
    · split at h
      · rename_i hb
        rw [E.beq_eq hb]; exact ⟨w, h2⟩
      · exact low_def hl' hm h
    · exact low_def hl' hm h
theorem nonneg_rd {fx : Fx} (hf : FxOk G σ fx) {s i : E} {sz o : Nat} (h : nonneg fx (.rd s i sz o) = true) : ∃ v, iv G σ (.rd s i sz o) = some v := by
  simp only [nonneg] at h
  split at h
  · rename_i h1
    exact low_def hf.le (by omega) h1
  · exact low_def hf.lt (by omega) h

theorem wrap_small (n : Nat) (h : n < 9223372036854775808) : IntKind.i64.wrap (n : Int) = (n : Int) := by
  have e : (n : Int) % 2 ^ 64 = n := Int.emod_eq_of_lt (by omega) (by omega)
  simp only [IntKind.wrap, IntKind.bits, IntKind.signed, e]
  rw [if_neg]
  simp
  omega
theorem add_one {n : Nat} {t : TypeId} {z v : Int} {v' : Int} {k : IntKind} (h0 : 0 ≤ z) (hlt : z < v) (hv : v ≤ 4611686018427387904) (he : ev G σ (.bin .add t (.v n) (.int .i64 1)) = some (.int k v')) (hz : σ[n]? = some (.int .i64 z)) : v' = z + 1 := by
  obtain ⟨m, rfl⟩ := Int.eq_ofNat_of_zero_le h0
  have hb : Go.binOp .add t (.int .i64 (m : Int)) (.int .i64 1) = .pure (.int .i64 (IntKind.i64.wrap ((m : Int) + 1))) := rfl
  simp only [ev, hz, hb] at he
  cases he
  have := wrap_small (m + 1) (by omega)
  have e : ((m + 1 : Nat) : Int) = (m : Int) + 1 := by omega
  rw [e] at this
  exact this

/-! ### The head -/
theorem allR_ok (hH : Holds G KT σ β S ft st) {c : E} : ∀ {l : List (Bd × Bd)} {r : List (E × E × E)}, allR KT S c l = some r → ∀ p ∈ r, p.2.1 = c ∧ (∃ a, ev G σ p.1 = some a) ∧ ∃ v : Nat, ev G σ p.2.2 = some (.int .i64 (Int.ofNat v))
  | [], r, h, p, hp => by cases h; cases hp
  | (s, q) :: l, r, h, p, hp => by
    unfold allR at h
    split at h
    case h_2 => cases h
    rename_i s' h' r' h1 h2 h3
    cases h
    rcases List.mem_cons.1 hp with rfl | hp
    · obtain ⟨v, q1, _⟩ := boundOf_ok hH h2
      exact ⟨rfl, sliceOf_ok hH h1, v, q1⟩
    · exact allR_ok hH h3 p hp

/-- The elements met so far. -/
def Met (G : Globals) (σ : List AV) (al : List (E × E × E)) (z : Int) : Prop :=
  ∀ p ∈ al, ∀ a H, ev G σ p.1 = some a → iv G σ p.2.2 = some H → ∀ j : Nat, (j : Int) < z → ∃ k x, cellAt G a j = some (.int k x) ∧ 0 ≤ x ∧ x < H

theorem Met.step {σ' : List AV} {fx : Fx} {al : List (E × E × E)} {z : Nat} {n : Nat} (hs : Ext σ σ') (hf : FxOk G σ' fx) (hal : ∀ p ∈ al, p.2.1 = .v n ∧ (∃ a, ev G σ p.1 = some a) ∧ ∃ v : Nat, ev G σ p.2.2 = some (.int .i64 (Int.ofNat v)))
    (hz : ∃ k, σ'[n]? = some (.int k (Int.ofNat z))) : ∀ {l : List (E × E × E)}, (∀ p ∈ l, p ∈ al) → elemsOk fx (.v n) l = true → Met G σ l (Int.ofNat z) → Met G σ l (Int.ofNat z + 1)
  | [], _, _, _ => fun p hp => by cases hp
  | (s, c, h) :: l, hsub, he, hm => by
    simp only [elemsOk] at he
    split at he
    case h_2 => cases he
    rename_i hi
    have ih := Met.step hs hf hal hz (l := l) (fun p hp => hsub p (List.mem_cons_of_mem _ hp)) he (fun p hp => hm p (List.mem_cons_of_mem _ hp))
    intro p hp
    rcases List.mem_cons.1 hp with rfl | hp
    · intro a H ha hH j hj
      by_cases hlt : (j : Int) < Int.ofNat z
      · exact hm _ List.mem_cons_self a H ha hH j hlt
      · have hj' : j = z := by have : Int.ofNat z = (z : Int) := rfl; omega
        subst hj'
        unfold idxOk0 at hi
        split at hi
        case h_2 => cases hi
        rename_i hnn
        obtain ⟨v, hv⟩ := nonneg_rd hf hnn
        have h0 := nonneg_ok hf hv hnn
        have h1 := ltOk_ok hf hv (iv_ext hs hH) hnn hi
        obtain ⟨k, hk⟩ := hz
        have hk' : ev G σ' (.v n) = some (.int k (Int.ofNat j)) := hk
        unfold iv at hv
        cases hx : ev G σ' (.rd s (.v n) 1 0) with
        | none => rw [hx] at hv; cases hv
        | some x =>
          rw [hx] at hv
          cases x <;> simp only [Option.some.injEq, reduceCtorEq] at hv
          subst hv
          unfold ev at hx
          rw [ev_ext hs ha, hk'] at hx
          simp only at hx
          split at hx
          case h_2 => cases hx
          split at hx
          case isFalse => cases hx
          simp only [Nat.mul_one, Nat.add_zero] at hx
          exact ⟨_, _, hx, h0, h1⟩
    · exact ih p hp

/-- What must be so of a frame and a state for the head to be met. -/
structure HeadOk (G : Globals) (KT : KTab) (h : LoopHint) (S : Sy) (σ : List AV) (β : List Nat) (al : List (E × E × E)) (ft : T AV) (st : St) (z : Nat) : Prop where
  keep : ∀ t ∈ h.keep, ∀ s, S.tm.get (key t) = some s → ∃ x, ft.get (key t) = some x ∧ RS G KT σ β s x
  cnt : ft.get (key h.cnt) = some (.int .i64 (Int.ofNat z))
  hav : ∀ t ∈ h.hav, KindOk S.tm ft t
  hx : HX G KT (blkNums S.tm h.blk) σ β S.hp S.nb st
  met : Met G σ al (Int.ofNat z)

theorem head_holds {h : LoopHint} (hH : FxOk G σ S.fx) (hn : σ.length = S.nv) {al : List (E × E × E)} (hal : ∀ p ∈ al, p.2.1 = .v S.nv ∧ (∃ a, ev G σ p.1 = some a) ∧ ∃ v : Nat, ev G σ p.2.2 = some (.int .i64 (Int.ofNat v)))
    {z : Nat} (hh : HeadOk G KT h S σ β al ft st z) {r : T SV} {nv1 nv2 : Nat} {hp' : T SB}
    (h1 : havR S.tm h.hav (T.set (some (.int .i64 (.v S.nv))) (key h.cnt) (keepR S.tm h.keep .leaf)) (S.nv + 1) = some (r, nv1)) (h2 : havBR S.tm h.blk S.hp nv1 = some (hp', nv2)) :
    ∃ τ, Holds G KT (σ ++ ([.int .i64 (Int.ofNat z)] ++ τ)) β ⟨r, hp', S.nb, nv2, ⟨S.fx.lt, (.int .i64 0, .v S.nv) :: S.fx.le, S.fx.eq, S.fx.ne, S.fx.bl, S.fx.cx, al ++ S.fx.al⟩⟩ ft st := by
  have hnew : (σ ++ [AV.int .i64 (Int.ofNat z)])[S.nv]? = some (.int .i64 (Int.ofNat z)) := by rw [← hn]; simp
  have e1 : Ext σ (σ ++ [AV.int .i64 (Int.ofNat z)]) := ⟨_, rfl⟩
  have t1 : TR G KT (σ ++ [AV.int .i64 (Int.ofNat z)]) β (T.set (some (.int .i64 (.v S.nv))) (key h.cnt) (keepR S.tm h.keep .leaf)) ft := by
    refine TR.set (keepR_TR (fun t s ht => by rw [leaf_get] at ht; cases ht) fun t ht s hs => ?_) hh.cnt ⟨_, hnew, rfl⟩
    obtain ⟨x, q1, q2⟩ := hh.keep t ht s hs
    exact ⟨x, q1, RS.ext e1 (ExtN.refl _) _ _ q2⟩
  obtain ⟨τ1, q1, q2⟩ := havR_TR h1 (by simp [hn]) t1 hh.hav
  have e2 : Ext σ (σ ++ [AV.int .i64 (Int.ofNat z)] ++ τ1) := e1.trans ⟨_, rfl⟩
  have hx : HX G KT (blkNums S.tm h.blk) (σ ++ [AV.int .i64 (Int.ofNat z)] ++ τ1) β S.hp S.nb st := by
    refine ⟨hh.hx.len, hh.hx.grps, hh.hx.lt, fun b sb hb => ?_, hh.hx.inj⟩
    rcases hh.hx.blk b sb hb with q | ⟨id, q1, q2⟩
    · exact .inl q
    · exact .inr ⟨id, q1, q2.ext e2 (ExtN.refl _)⟩
  obtain ⟨τ2, q3, q4⟩ := havBR_HR h2 q1 hx
  refine ⟨τ1 ++ τ2, ?_⟩
  have ea : σ ++ ([AV.int .i64 (Int.ofNat z)] ++ (τ1 ++ τ2)) = σ ++ [AV.int .i64 (Int.ofNat z)] ++ τ1 ++ τ2 := by simp only [List.append_assoc]
  rw [ea]
  have e3 : Ext (σ ++ [AV.int .i64 (Int.ofNat z)] ++ τ1) (σ ++ [AV.int .i64 (Int.ofNat z)] ++ τ1 ++ τ2) := ⟨_, rfl⟩
  have e4 := e2.trans e3
  have hc : ev G (σ ++ [AV.int .i64 (Int.ofNat z)] ++ τ1 ++ τ2) (.v S.nv) = some (.int .i64 (Int.ofNat z)) := by
    have e5 : Ext (σ ++ [AV.int .i64 (Int.ofNat z)]) (σ ++ [AV.int .i64 (Int.ofNat z)] ++ τ1 ++ τ2) := ⟨τ1 ++ τ2, by simp only [List.append_assoc]⟩
    exact e5.get hnew
  have hci : iv G (σ ++ [AV.int .i64 (Int.ofNat z)] ++ τ1 ++ τ2) (.v S.nv) = some (Int.ofNat z) := by unfold iv; rw [hc]
  have hf := hH.ext e4
  refine ⟨⟨hf.lt, fun p hp => ?_, hf.eq, hf.ne, hf.bl, hf.cx, fun p hp => ?_⟩, q2.ext e3 (ExtN.refl _), q4, q3⟩
  · rcases List.mem_cons.1 hp with rfl | hp
    · exact ⟨0, Int.ofNat z, iv_int, hci, Int.natCast_nonneg z⟩
    · exact hf.le p hp
  · rcases List.mem_append.1 hp with hp | hp
    · obtain ⟨r1, ⟨a, r2⟩, v, r3⟩ := hal p hp
      refine ⟨a, Int.ofNat z, Int.ofNat v, ev_ext e4 r2, by rw [r1]; exact hci, iv_ext e4 (by unfold iv; rw [r3]), hh.met p hp a (Int.ofNat v) r2 (by unfold iv; rw [r3])⟩
    · exact hf.al p hp
end
end
end Go.Sym
