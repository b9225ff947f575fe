/- Frames, regions in text order and in any drawn order, calls: a run of the shadow says what the machine does. -/
import Derived.Test.YtpdhahkeghblmaaGreatDoorShd3
import Derived.Orders
set_option linter.unusedSimpArgs false
set_option linter.unusedVariables false
/- What an operation's outcome does to the frame. -/
namespace Go.Shd
noncomputable section
variable {G : Globals} {P : Program}

def putT (dst : Option Tmp) (arr : Array Value) (V : Value) : Array Value :=
  match dst with
  | some d => arr.setIfInBounds d V
  | none => arr

theorem setTK_true {tm : T AV} {sz : Nat} {dst : Option Tmp} {v : AV} {K : T AV → Bool} (h : setTK tm sz dst v K = true) : ∃ tm', K tm' = true ∧
    ∀ μ (arr : Array Value) V, TR μ tm sz arr → VR μ v V → TR μ tm' sz (putT dst arr V) := by
  cases dst with
  | none => exact ⟨tm, h, fun μ arr V ht _ => ht⟩
  | some d =>
    unfold setTK at h
    simp only at h
    split at h
    · rename_i hd
      rw [T.setK_eq] at h
      exact ⟨_, h, fun μ arr V ht hv => ht.set (of_blt hd) hv⟩
    · cases h

def tset (dst : Option Tmp) (v : AV) (tm : T AV) : T AV :=
  match dst with
  | some d => T.set (some v) (key d) tm
  | none => tm

theorem setTK_set {tm : T AV} {sz : Nat} {dst : Option Tmp} {v : AV} {K : T AV → Bool} (h : setTK tm sz dst v K = true) : K (tset dst v tm) = true ∧ ∀ d, dst = some d → d < sz := by
  cases dst with
  | none => exact ⟨h, by simp⟩
  | some d =>
    unfold setTK at h
    simp only at h
    split at h
    · rename_i hd
      rw [T.setK_eq] at h
      exact ⟨h, by rintro d' ⟨⟩; exact of_blt hd⟩
    · cases h

theorem TR.tset {μ : Mu} {tm : T AV} {sz : Nat} {arr : Array Value} (ht : TR μ tm sz arr) {dst : Option Tmp} (hd : ∀ d, dst = some d → d < sz) {v : AV} {V : Value} (hv : VR μ v V) :
    TR μ (Shd.tset dst v tm) sz (putT dst arr V) := by
  cases dst with
  | none => exact ht
  | some d => exact ht.set (hd d rfl) hv

theorem VR_bool {μ : Mu} {v : AV} {b : Bool} (h : VR μ v (.bool b)) : v = .lit (.bool b) := by
  cases v <;> simp only [VR] at h <;> (first | (rw [← h]) | (exfalso; revert h; simp))

theorem notBool {μ : Mu} {tm : T AV} {d : Nat} {V : Value} (want : Bool) (hv : VR μ ((tm.get (key d)).getD aundef) V) (hn : ∀ b, V ≠ .bool b) :
    (match tm.get (key d) with | some (.lit (.bool true)) => want | some (.lit (.bool false)) => !want | _ => false) = false := by
  split
  · rename_i hq; rw [hq] at hv; simp only [Option.getD_some, VR] at hv; exact absurd hv (hn _)
  · rename_i hq; rw [hq] at hv; simp only [Option.getD_some, VR] at hv; exact absurd hv (hn _)
  · rfl

theorem wanted_eq {μ : Mu} {tm : T AV} {sz : Nat} {arr : Array Value} (ht : TR μ tm sz arr) (ops : Array Oper) (o : Oper) : Region.wanted o (yielded ops arr) = wantedK ops o tm := by
  unfold Region.wanted wantedK
  cases hg : o.guard with
  | none => rfl
  | some p =>
    obtain ⟨j, want⟩ := p
    simp only
    unfold yielded
    cases hoj : ops[j]? with
    | none => simp
    | some oj =>
      simp only [Option.bind_some]
      cases hd : oj.dst with
      | none => simp
      | some d =>
        simp only [Option.bind_some]
        have hv := ht.2 d
        cases hb : arr[d]? with
        | none =>
          have e : arr.getD d undef = undef := by rw [Array.getD_eq_getD_getElem?, hb]; rfl
          rw [e] at hv
          exact Eq.trans (b := false) (by simp) (notBool want hv (by intro b; simp [undef])).symm
        | some V =>
          have e : arr.getD d undef = V := by rw [Array.getD_eq_getD_getElem?, hb]; rfl
          rw [e] at hv
          cases V
          case bool b =>
            have := VR_bool hv
            cases hq : tm.get (key d) with
            | none => rw [hq] at this; simp [aundef] at this
            | some q =>
              rw [hq] at this
              simp only [Option.getD_some] at this
              subst this
              cases b <;> cases want <;> rfl
          all_goals exact Eq.trans (b := false) (by simp) (notBool want hv (by intro b; simp)).symm

/-- The frame behind an operation that has handed back a value. -/
theorem FR0.finish {μ : Mu} {fn : FuncId} {tm tm' : T AV} {sz : Nat} {defs : List DItem} {rnd : Option Nat} {dfd : Bool} {mf : Frame} (h : FR0 μ fn tm sz defs rnd dfd mf) {ops : Array Oper} {i : Nat} {rest : List Nat} {k : List Item}
    (ht : mf.todo = .inRegion ops (i :: rest) :: k) {V : Value} (hT : TR μ tm' sz (putT ((ops[i]?).bind (·.dst)) mf.tmps V)) (hm : mf.mode = .run) :
    FR0 μ fn tm' sz defs rnd dfd (mf.finish V) ∧ (mf.finish V).todo = .inRegion ops rest :: k ∧ (mf.finish V).mode = .run := by
  have e : mf.finish V = { mf with tmps := putT ((ops[i]?).bind (·.dst)) mf.tmps V, todo := .inRegion ops rest :: k } := by
    simp only [Frame.finish, ht]
    cases (ops[i]?).bind (·.dst) <;> rfl
  rw [e]
  exact ⟨⟨h.hfn, hT, h.hdefs, h.hkind, h.hrnd, h.plain⟩, rfl, hm⟩

/-! ### Frames of calls -/
theorem argsK_true {l : List AV} : ∀ {i : Nat} {tm : T AV} {K : T AV → Bool}, argsK i l tm K = true → ∃ tm', K tm' = true ∧ ∀ j, tm'.get (key j) = if j < i then tm.get (key j) else if h : j - i < l.length then some l[j - i] else tm.get (key j) := by
  induction l with
  | nil => intro i tm K h; exact ⟨tm, h, fun j => by simp⟩
  | cons v l ih =>
    intro i tm K h
    have h : T.setK (some v) (key i) tm (fun tm => natK (Nat.succ i) fun i => argsK i l tm K) = true := h
    rw [T.setK_eq, natK_eq, Nat.succ_eq_add_one] at h
    obtain ⟨tm', hk, hg⟩ := ih h
    refine ⟨tm', hk, fun j => ?_⟩
    rw [hg j, T.get_set]
    by_cases h1 : j < i
    · have h2 : j < i + 1 := by omega
      have h3 : ¬ j = i := by omega
      simp [h1, h2, h3]
    · by_cases h2 : j = i
      · subst h2; simp
      · have h3 : ¬ j < i + 1 := by omega
        simp only [h1, h3, h2, if_false]
        by_cases h4 : j - i < (v :: l).length
        · have h5 : j - (i + 1) < l.length := by simp at h4; omega
          simp only [h4, h5, dif_pos]
          have : j - i = (j - (i + 1)) + 1 := by omega
          simp [this]
        · have h5 : ¬ j - (i + 1) < l.length := by simp at h4; omega
          simp only [h4, h5, dif_neg, not_false_iff]

theorem enterK_true {f : FuncId} {args : List AV} {dfd : Bool} {up : Option AV} {K : Fr → Bool} (h : enterK P f args dfd up K = true) : ∃ fd c tm sz, P.funcs[f]? = some fd ∧ K ⟨f, tm, sz, [.code c], [], none, up, dfd, false⟩ = true ∧
    ∀ μ (A : Array Value), VRs μ args A.toList → FR0 μ f tm sz [] none dfd (Frame.enter P f A (if dfd then .deferred else .normal)) ∧ (Frame.enter P f A (if dfd then .deferred else .normal)).mode = .run ∧
      (Frame.enter P f A (if dfd then .deferred else .normal)).todo = [.code c] := by
  unfold enterK at h
  split at h
  case h_2 => cases h
  rename_i fd hf
  have hf := tfunc_some P hf
  split at h
  case h_2 => cases h
  rename_i c hc
  obtain ⟨tm, h1, hg⟩ := argsK_true h
  clear h
  rw [lenK_eq, natK_eq] at h1
  refine ⟨fd, c, tm, _, hf, h1, fun μ A hA => ⟨⟨rfl, ⟨?_, fun i => ?_⟩, rfl, rfl, rfl, fun _ => rfl⟩, rfl, by simp [Frame.enter, hf, hc]⟩⟩
  · have := hA.len
    simp [Frame.enter, hf, this]
  · have hl := hA.len
    rw [hg i]
    simp only [Nat.not_lt_zero, if_false, Nat.sub_zero, T.get_leaf]
    simp only [Array.length_toList] at hl
    by_cases hi : i < args.length
    · simp only [hi, dif_pos, Option.getD_some]
      obtain ⟨V, hV, hv⟩ := hA.get (List.getElem?_eq_getElem hi)
      have hiA : i < A.size := by omega
      have hV' : A[i]? = some V := by simpa using hV
      have : (Frame.enter P f A (if dfd then .deferred else .normal)).tmps.getD i undef = V := by
        simp only [Frame.enter]
        rw [Array.getD_eq_getD_getElem?, Array.getElem?_append_left hiA, hV']; rfl
      rw [this]; exact hv
    · simp only [hi, dif_neg, not_false_iff, Option.getD_none]
      have : (Frame.enter P f A (if dfd then .deferred else .normal)).tmps.getD i undef = undef := by
        simp only [Frame.enter]
        rw [Array.getD_eq_getD_getElem?, Array.getElem?_append_right (by omega), Array.getElem?_replicate]
        split <;> rfl
      rw [this]; simp [VR, aundef, undef]
end
end Go.Shd
/- What comes of an operation. -/
namespace Go.Shd
noncomputable section
variable {G : Globals} {P : Program}

/-- A stretch of a frame's run: it goes on with 'go', or panics with 'pan'. -/
def Goes (P : Program) (G : Globals) (st : St) (fn : FuncId) (sz : Nat) (rnd : Option Nat) (dfd : Bool) (m : Mv) (Q Q' : Mu → Frame → Prop) (go : Mv → St → Bool) (pan : Mv → AV → St → Bool) : Prop :=
  (∃ m' st', go m' st' = true ∧ UpOk m.up m.recd m'.up m'.recd ∧ st.next ≤ st'.next ∧ (Wf st → Wf st') ∧
    ∀ N μ w mf cs0 cs, Wf st → Fresh μ st.next st'.next → Rel G N μ st w → FR0 μ fn m.tm sz m.defs rnd dfd mf → Q μ mf → CsR μ dfd m.up m.recd cs0 cs → (rnd ≠ none → cs0 ≠ []) →
      ∃ μ' w' mf' cs', Post G N st μ w st' μ' w' ∧ Steps P (lone mf cs w) (lone mf' cs' w') ∧ FR0 μ' fn m'.tm sz m'.defs rnd dfd mf' ∧ Q' μ' mf' ∧ CsR μ' dfd m'.up m'.recd cs0 cs') ∨
  (∃ m' v st', pan m' v st' = true ∧ UpOk m.up m.recd m'.up m'.recd ∧ st.next ≤ st'.next ∧ (Wf st → Wf st') ∧
    ∀ N μ w mf cs0 cs, Wf st → Fresh μ st.next st'.next → Rel G N μ st w → FR0 μ fn m.tm sz m.defs rnd dfd mf → Q μ mf → CsR μ dfd m.up m.recd cs0 cs → (rnd ≠ none → cs0 ≠ []) →
      ∃ μ' w' mf' cs' V, Post G N st μ w st' μ' w' ∧ Steps P (lone mf cs w) (lone mf' cs' w') ∧ FR0 μ' fn m'.tm sz m'.defs rnd dfd mf' ∧ mf'.mode = .panicking [{ v := V, recovered := false }] ∧ VR μ' v V ∧ CsR μ' dfd m'.up m'.recd cs0 cs')

/-- An operation at hand: the machine's frame, its operation's run in the world at hand. -/
def AtOp (P : Program) (ops : Array Oper) (dst : Option Tmp) (rest : List Nat) (k : List Item) (R : Result Next → Prop) (mf : Frame) (cs : List Frame) (w0 : World) : Prop :=
  mf.mode = .run ∧ (∃ i, mf.todo = .inRegion ops (i :: rest) :: k ∧ (ops[i]?).bind (·.dst) = dst) ∧
  ∃ s : Sem Next, stepG P true { frame := mf, callers := cs, status := .running, dying := none } w0 = stepG.apply P true mf cs none s w0 ∧ R (s.run P w0)

def InR (ops : Array Oper) (rest : List Nat) (k : List Item) (mf : Frame) : Prop := mf.mode = .run ∧ mf.todo = .inRegion ops rest :: k

/-- What comes of an operation: the machine goes on from the world 'w0' ahead of it; (st, μ, w) is what the operation has left. -/
theorem afterK_core {ihr : Run} (ih : RunOk P G ihr) {fn : FuncId} {sz : Nat} {rnd : Option Nat} {dfd : Bool} {m : Mv} {dst : Option Tmp} {nx : ONext} {st : St} {go : Mv → St → Bool} {pan : AV → St → Bool}
    (h : afterK P ihr sz rnd dfd m dst nx st go pan = true) :
    (∃ v defs' up' recd' st', go ⟨tset dst v m.tm, defs', up', recd'⟩ st' = true ∧ (∀ d, dst = some d → d < sz) ∧ UpOk m.up m.recd up' recd' ∧ st.next ≤ st'.next ∧ (Wf st → Wf st') ∧
      ∀ N μ w w0 mf cs0 cs ops rest k tm2, Wf st → Fresh μ st.next st'.next → Rel G N μ st w → FR0 μ fn tm2 sz m.defs rnd dfd mf → AtOp P ops dst rest k (OutR μ st w nx) mf cs w0 → CsR μ dfd m.up m.recd cs0 cs → (rnd ≠ none → cs0 ≠ []) →
        ∃ μ' w' mf' cs', Post G N st μ w st' μ' w' ∧ Steps P (lone mf cs w0) (lone mf' cs' w') ∧ FR0 μ' fn (tset dst v tm2) sz defs' rnd dfd mf' ∧ InR ops rest k mf' ∧ CsR μ' dfd up' recd' cs0 cs') ∨
    (∃ v st', pan v st' = true ∧ st.next ≤ st'.next ∧ (Wf st → Wf st') ∧
      ∀ N μ w w0 mf cs0 cs ops rest k, Wf st → Fresh μ st.next st'.next → Rel G N μ st w → FR0 μ fn m.tm sz m.defs rnd dfd mf → AtOp P ops dst rest k (OutR μ st w nx) mf cs w0 → CsR μ dfd m.up m.recd cs0 cs → (rnd ≠ none → cs0 ≠ []) →
        ∃ μ' w' mf' cs' V, Post G N st μ w st' μ' w' ∧ Steps P (lone mf cs w0) (lone mf' cs' w') ∧ FR0 μ' fn m.tm sz m.defs rnd dfd mf' ∧ mf'.mode = .panicking [{ v := V, recovered := false }] ∧ VR μ' v V ∧ CsR μ' dfd m.up m.recd cs0 cs') := by
  obtain ⟨tm, defs, up, recd⟩ := m
  cases nx with
  | val v =>
    simp only [afterK] at h
    obtain ⟨hk, hT⟩ := setTK_set h
    refine .inl ⟨_, _, _, _, st, hk, hT, UpOk.refl _ _, Nat.le_refl _, fun h => h, fun N μ w w0 mf cs0 cs ops rest k tm2 hw hf hr hfr hat hcs hne => ?_⟩
    obtain ⟨hm, ⟨i, ht, hd⟩, s, hstep, hR⟩ := hat
    rcases hR with ⟨V, e, hv⟩ | ⟨e, hv⟩
    · obtain ⟨h1, h2, h3⟩ := hfr.finish ht (V := V) (tm' := tset dst _ tm2) (by rw [hd]; exact hfr.htm.tset hT hv) hm
      exact ⟨μ, w, _, cs, Post.refl hr, .one (step_lone_go (by rw [hstep]; exact st_value e)), h1, ⟨h3, h2⟩, hcs⟩
    · subst hv
      obtain ⟨h1, h2, h3⟩ := hfr.finish ht (V := undef) (tm' := tset dst aundef tm2) (by rw [hd]; exact hfr.htm.tset hT (by simp [VR, aundef, undef])) hm
      exact ⟨μ, w, _, cs, Post.refl hr, .one (step_lone_go (by rw [hstep]; exact st_skipped e)), h1, ⟨h3, h2⟩, hcs⟩
  | enter f args =>
    simp only [afterK] at h
    obtain ⟨fd, c, tme, sze, hfd, h1, hE⟩ := enterK_true h
    clear h
    obtain ⟨e, st', hk, hn, hwf, hrun⟩ := ih _ _ _ h1
    have go1 : ∀ N μ w w0 mf cs ops rest k, Wf st → Fresh μ st.next st'.next → Rel G N μ st w → AtOp P ops dst rest k (OutR μ st w (.enter f args)) mf cs w0 →
        ∃ μ' w', Post G N st μ w st' μ' w' ∧ EndR P μ' w' f none false none false (mf :: cs) e (lone mf cs w0) := by
      intro N μ w w0 mf cs ops rest k hw hf hr hat
      obtain ⟨hm, ⟨i, ht, hd⟩, s, hstep, A, eA, hA⟩ := hat
      obtain ⟨hF, hFm, hFt⟩ := hE μ A hA
      obtain ⟨μ', w', hp, hend⟩ := hrun N μ w (Frame.enter P f A .normal) (mf :: cs) (mf :: cs) hw hf hr hF ⟨hFm, hFt⟩ rfl (by simp)
      refine ⟨μ', w', hp, hend.of_steps (.one (step_lone_go ?_)) (UpOk.refl _ _)⟩
      rw [hstep]; simp [stepG.apply, eA, ht]
    cases e with
    | ret v r =>
      simp only at hk
      obtain ⟨hk, hT⟩ := setTK_set hk
      refine .inl ⟨_, _, _, _, st', hk, hT, UpOk.refl _ _, hn, hwf, fun N μ w w0 mf cs0 cs ops rest k tm2 hw hf hr hfr hat hcs hne => ?_⟩
      obtain ⟨μ', w', hp, mf2, cs2, up', recd', _, hs, hfn2, hd2, hk2, hcs2, hmode, _, V, fd', hfd', hres, hv⟩ := go1 N μ w w0 mf cs ops rest k hw hf hr hat
      obtain ⟨hm, ⟨i, ht, hd⟩, s, hstep, A, eA, hA⟩ := hat
      have hle := hp.le hf
      have hfr' := hfr.mono hle
      obtain ⟨h1, h2, h3⟩ := hfr'.finish ht (V := V) (tm' := tset dst _ tm2) (by rw [hd]; exact hfr'.htm.tset hT hv) hm
      simp only [CsR] at hcs2; subst hcs2
      have hlv : mf2.leaving P w' (.returned V) := ⟨hmode, hd2, hk2, fd', by rw [hfn2]; exact hfd', hres⟩
      exact ⟨μ', w', _, cs, hp, hs.trans (.one (step_leave_returned hlv)), h1, ⟨h3, h2⟩, hcs.mono hle⟩
    | pan v =>
      simp only at hk
      refine .inr ⟨v, st', hk, hn, hwf, fun N μ w w0 mf cs0 cs ops rest k hw hf hr hfr hat hcs hne => ?_⟩
      obtain ⟨μ', w', hp, mf2, cs2, up', recd', _, hs, hfn2, hd2, hk2, hcs2, _, V, hmode, hv, fd', hfd'⟩ := go1 N μ w w0 mf cs ops rest k hw hf hr hat
      obtain ⟨hm, ⟨i, ht, hd⟩, s, hstep, A, eA, hA⟩ := hat
      have hle := hp.le hf
      simp only [CsR] at hcs2; subst hcs2
      have hlv : mf2.leaving P w' (.panicked [{ v := V, recovered := false }]) := ⟨hmode, hd2, fd', by rw [hfn2]; exact hfd'⟩
      have hra : mf.raise [{ v := V, recovered := false }] = { mf with mode := .panicking [{ v := V, recovered := false }] } := by simp [Frame.raise, hm]
      have hfr' := hfr.mono hle
      refine ⟨μ', w', mf.raise [{ v := V, recovered := false }], cs, V, hp, hs.trans (.one (step_leave_panicked hlv)), ?_, by rw [hra], hv, hcs.mono hle⟩
      rw [hra]; exact ⟨hfr'.hfn, hfr'.htm, hfr'.hdefs, hfr'.hkind, hfr'.hrnd, hfr'.plain⟩
  | round l f tmr assign body =>
    simp only [afterK] at h
    split at h
    case h_2 => cases h
    rename_i s0 p0 g0 t0 szl ps0 a0 b0 d0 hbl
    obtain ⟨e, st', hk, hn, hwf, hrun⟩ := ih _ _ _ h
    have go1 : ∀ N μ w w0 mf cs ops rest k, Wf st → Fresh μ st.next st'.next → Rel G N μ st w → AtOp P ops dst rest k (OutR μ st w (.round l f tmr assign body)) mf cs w0 →
        ∃ μ' w', Post G N st μ w st' μ' w' ∧ EndR P μ' w' f (some l) false none false (mf :: cs) e (lone mf cs w0) := by
      intro N μ w w0 mf cs ops rest k hw hf hr hat
      obtain ⟨hm, ⟨i, ht, hd⟩, s, hstep, b, T, hb, eT, hTR⟩ := hat
      obtain ⟨μ', w', hp, hend⟩ := hrun N μ w (Frame.round b f T assign body .normal) (mf :: cs) (mf :: cs) hw hf hr
        ⟨rfl, hTR _ _ _ _ _ _ _ _ _ hbl, rfl, rfl, ⟨b, hb, rfl⟩, by simp⟩ ⟨rfl, rfl⟩ rfl (by simp)
      refine ⟨μ', w', hp, hend.of_steps (.one (step_lone_go ?_)) (UpOk.refl _ _)⟩
      rw [hstep]; simp [stepG.apply, eT]
    cases e with
    | ret v r =>
      simp only at hk
      obtain ⟨hk, hT⟩ := setTK_set hk
      refine .inl ⟨_, _, _, _, st', hk, hT, UpOk.refl _ _, hn, hwf, fun N μ w w0 mf cs0 cs ops rest k tm2 hw hf hr hfr hat hcs hne => ?_⟩
      obtain ⟨μ', w', hp, hend⟩ := go1 N μ w w0 mf cs ops rest k hw hf hr hat
      obtain ⟨V, hv, hs⟩ := hend mf cs rfl
      obtain ⟨hm, ⟨i, ht, hd⟩, _⟩ := hat
      have hle := hp.le hf
      have hfr' := hfr.mono hle
      obtain ⟨h1, h2, h3⟩ := hfr'.finish ht (V := V) (tm' := tset dst _ tm2) (by rw [hd]; exact hfr'.htm.tset hT hv) hm
      exact ⟨μ', w', _, cs, hp, hs, h1, ⟨h3, h2⟩, hcs.mono hle⟩
    | pan v =>
      simp only at hk
      refine .inr ⟨v, st', hk, hn, hwf, fun N μ w w0 mf cs0 cs ops rest k hw hf hr hfr hat hcs hne => ?_⟩
      obtain ⟨μ', w', hp, hend⟩ := go1 N μ w w0 mf cs ops rest k hw hf hr hat
      obtain ⟨V, hv, hs⟩ := hend mf cs rfl
      obtain ⟨hm, ⟨i, ht, hd⟩, _⟩ := hat
      have hle := hp.le hf
      have hra : mf.raise [{ v := V, recovered := false }] = { mf with mode := .panicking [{ v := V, recovered := false }] } := by simp [Frame.raise, hm]
      have hfr' := hfr.mono hle
      refine ⟨μ', w', mf.raise [{ v := V, recovered := false }], cs, V, hp, hs, ?_, by rw [hra], hv, hcs.mono hle⟩
      rw [hra]; exact ⟨hfr'.hfn, hfr'.htm, hfr'.hdefs, hfr'.hkind, hfr'.hrnd, hfr'.plain⟩
  | dfr d =>
    simp only [afterK] at h
    split at h
    case h_2 => cases h
    obtain ⟨hk, hT⟩ := setTK_set h
    refine .inl ⟨_, _, _, _, st, hk, hT, UpOk.refl _ _, Nat.le_refl _, fun h => h, fun N μ w w0 mf cs0 cs ops rest k tm2 hw hf hr hfr hat hcs hne => ?_⟩
    obtain ⟨hm, ⟨i, ht, hd⟩, s, hstep, C, A, e, hv⟩ := hat
    have hfr2 : FR0 μ fn tm2 sz (.call d :: defs) none dfd { mf with defers := { target := .fn (.func d.f) C, args := A } :: mf.defers } :=
      ⟨hfr.hfn, hfr.htm, ⟨_, _, rfl, ⟨C, A, rfl, hv⟩, hfr.hdefs⟩, hfr.hkind, hfr.hrnd, hfr.plain⟩
    obtain ⟨h1, h2, h3⟩ := hfr2.finish ht (V := undef) (tm' := tset dst aundef tm2) (by rw [hd]; exact hfr2.htm.tset hT (by simp [VR, aundef, undef])) hm
    exact ⟨μ, w, _, cs, Post.refl hr, .one (step_lone_go (by rw [hstep]; simp [stepG.apply, e])), h1, ⟨h3, h2⟩, hcs⟩
  | recov =>
    simp only [afterK] at h
    split at h
    case h_2 => cases h
    split at h
    · split at h
      · rename_i v
        obtain ⟨hk, hT⟩ := setTK_set h
        refine .inl ⟨_, _, _, _, st, hk, hT, .inr rfl, Nat.le_refl _, fun h => h, fun N μ w w0 mf cs0 cs ops rest k tm2 hw hf hr hfr hat hcs hne => ?_⟩
        obtain ⟨hm, ⟨i, ht, hd⟩, s, hstep, e⟩ := hat
        have e : s.run P w0 = .ok .recover w := e
        obtain ⟨c, rest', md, e1, e2, hup⟩ := hcs
        cases recd
        case true => exact absurd hup (by simp [UpM])
        obtain ⟨V, hv, hmd⟩ := hup
        obtain ⟨h1, h2, h3⟩ := hfr.finish ht (V := V) (tm' := tset dst _ tm2) (by rw [hd]; exact hfr.htm.tset hT hv) hm
        refine ⟨μ, w, mf.finish V, { c with mode := .panicking [{ v := V, recovered := true }] } :: rest', Post.refl hr, .one (step_lone_go ?_), h1, ⟨h3, h2⟩, c, rest', _, e1, rfl, V, rfl⟩
        have hkd : mf.kind = .deferred := hfr.hkind
        have hro : mf.roundOf = none := hfr.hrnd
        subst e2
        rw [hstep]
        simp [stepG.apply, e, hro, tryRecover, hkd, hmd]
      · obtain ⟨hk, hT⟩ := setTK_set h
        refine .inl ⟨_, _, _, _, st, hk, hT, UpOk.refl _ _, Nat.le_refl _, fun h => h, fun N μ w w0 mf cs0 cs ops rest k tm2 hw hf hr hfr hat hcs hne => ?_⟩
        obtain ⟨hm, ⟨i, ht, hd⟩, s, hstep, e⟩ := hat
        have e : s.run P w0 = .ok .recover w := e
        obtain ⟨h1, h2, h3⟩ := hfr.finish ht (V := .nilIface) (tm' := tset dst (.lit .nilIface) tm2) (by rw [hd]; exact hfr.htm.tset hT (by simp [VR])) hm
        refine ⟨μ, w, mf.finish .nilIface, cs, Post.refl hr, .one (step_lone_go ?_), h1, ⟨h3, h2⟩, hcs⟩
        obtain ⟨c, rest', md, e1, e2, hup⟩ := hcs
        have hkd : mf.kind = .deferred := hfr.hkind
        have hro : mf.roundOf = none := hfr.hrnd
        subst e2
        rw [hstep]
        cases recd with
        | false => simp only [UpM] at hup; subst hup; simp [stepG.apply, e, hro, tryRecover, hkd]
        | true => obtain ⟨V, hup⟩ := hup; subst hup; simp [stepG.apply, e, hro, tryRecover, hkd]
    · obtain ⟨hk, hT⟩ := setTK_set h
      refine .inl ⟨_, _, _, _, st, hk, hT, UpOk.refl _ _, Nat.le_refl _, fun h => h, fun N μ w w0 mf cs0 cs ops rest k tm2 hw hf hr hfr hat hcs hne => ?_⟩
      obtain ⟨hm, ⟨i, ht, hd⟩, s, hstep, e⟩ := hat
      have e : s.run P w0 = .ok .recover w := e
      obtain ⟨h1, h2, h3⟩ := hfr.finish ht (V := .nilIface) (tm' := tset dst (.lit .nilIface) tm2) (by rw [hd]; exact hfr.htm.tset hT (by simp [VR])) hm
      refine ⟨μ, w, mf.finish .nilIface, cs, Post.refl hr, .one (step_lone_go ?_), h1, ⟨h3, h2⟩, hcs⟩
      have hkd : mf.kind = .normal := hfr.hkind
      have hro : mf.roundOf = none := hfr.hrnd
      rw [hstep]
      simp [stepG.apply, e, hro, tryRecover, hkd]
  | panic v =>
    simp only [afterK] at h
    refine .inr ⟨v, st, h, Nat.le_refl _, fun h => h, fun N μ w w0 mf cs0 cs ops rest k hw hf hr hfr hat hcs hne => ?_⟩
    obtain ⟨hm, ⟨i, ht, hd⟩, s, hstep, V, e, hv⟩ := hat
    have hra : mf.raise [{ v := V, recovered := false }] = { mf with mode := .panicking [{ v := V, recovered := false }] } := by simp [Frame.raise, hm]
    refine ⟨μ, w, mf.raise [{ v := V, recovered := false }], cs, V, Post.refl hr, .one (step_lone_go (by rw [hstep]; simp [stepG.apply, e])), ?_, by rw [hra], hv, hcs⟩
    rw [hra]; exact ⟨hfr.hfn, hfr.htm, hfr.hdefs, hfr.hkind, hfr.hrnd, hfr.plain⟩

theorem afterK_true {ihr : Run} (ih : RunOk P G ihr) {fn : FuncId} {sz : Nat} {rnd : Option Nat} {dfd : Bool} {m : Mv} {dst : Option Tmp} {nx : ONext} {st : St} {go : Mv → St → Bool} {pan : AV → St → Bool}
    (h : afterK P ihr sz rnd dfd m dst nx st go pan = true) :
    (∃ m' st', go m' st' = true ∧ UpOk m.up m.recd m'.up m'.recd ∧ st.next ≤ st'.next ∧ (Wf st → Wf st') ∧
      ∀ N μ w w0 mf cs0 cs ops rest k, Wf st → Fresh μ st.next st'.next → Rel G N μ st w → FR0 μ fn m.tm sz m.defs rnd dfd mf → AtOp P ops dst rest k (OutR μ st w nx) mf cs w0 → CsR μ dfd m.up m.recd cs0 cs → (rnd ≠ none → cs0 ≠ []) →
        ∃ μ' w' mf' cs', Post G N st μ w st' μ' w' ∧ Steps P (lone mf cs w0) (lone mf' cs' w') ∧ FR0 μ' fn m'.tm sz m'.defs rnd dfd mf' ∧ InR ops rest k mf' ∧ CsR μ' dfd m'.up m'.recd cs0 cs') ∨
    (∃ v st', pan v st' = true ∧ st.next ≤ st'.next ∧ (Wf st → Wf st') ∧
      ∀ N μ w w0 mf cs0 cs ops rest k, Wf st → Fresh μ st.next st'.next → Rel G N μ st w → FR0 μ fn m.tm sz m.defs rnd dfd mf → AtOp P ops dst rest k (OutR μ st w nx) mf cs w0 → CsR μ dfd m.up m.recd cs0 cs → (rnd ≠ none → cs0 ≠ []) →
        ∃ μ' w' mf' cs' V, Post G N st μ w st' μ' w' ∧ Steps P (lone mf cs w0) (lone mf' cs' w') ∧ FR0 μ' fn m.tm sz m.defs rnd dfd mf' ∧ mf'.mode = .panicking [{ v := V, recovered := false }] ∧ VR μ' v V ∧ CsR μ' dfd m.up m.recd cs0 cs') := by
  rcases afterK_core ih (fn := fn) h with ⟨v, defs', up', recd', st', hk, _, hu, hn, hwf, ha⟩ | h
  · exact .inl ⟨_, st', hk, hu, hn, hwf, fun N μ w w0 mf cs0 cs ops rest k hw hf hr hfr hat hcs hne => ha N μ w w0 mf cs0 cs ops rest k m.tm hw hf hr hfr hat hcs hne⟩
  · exact .inr h

end
end Go.Shd
/- Regions in the order of the text. -/
namespace Go.Shd
noncomputable section
variable {G : Globals} {P : Program}

theorem Goes.done {st : St} {fn : FuncId} {sz : Nat} {rnd : Option Nat} {dfd : Bool} {m : Mv} {Q Q' : Mu → Frame → Prop} {go : Mv → St → Bool} {pan : Mv → AV → St → Bool} (h : go m st = true)
    (hs : ∀ N μ w mf cs, Rel G N μ st w → FR0 μ fn m.tm sz m.defs rnd dfd mf → Q μ mf → ∃ mf', Steps P (lone mf cs w) (lone mf' cs w) ∧ FR0 μ fn m.tm sz m.defs rnd dfd mf' ∧ Q' μ mf') : Goes P G st fn sz rnd dfd m Q Q' go pan :=
  .inl ⟨m, st, h, UpOk.refl _ _, Nat.le_refl _, fun h => h, fun N μ w mf cs0 cs _ _ hr hf hq hcs _ => by
    obtain ⟨mf', h1, h2, h3⟩ := hs N μ w mf cs hr hf hq
    exact ⟨μ, w, mf', cs, Post.refl hr, h1, h2, h3, hcs⟩⟩

theorem Goes.trans {st : St} {fn : FuncId} {sz : Nat} {rnd : Option Nat} {dfd : Bool} {m : Mv} {Q Q₁ Q' : Mu → Frame → Prop} {go₁ go : Mv → St → Bool} {pan : Mv → AV → St → Bool} (h : Goes P G st fn sz rnd dfd m Q Q₁ go₁ pan)
    (h' : ∀ m₁ st₁, go₁ m₁ st₁ = true → Goes P G st₁ fn sz rnd dfd m₁ Q₁ Q' go pan) : Goes P G st fn sz rnd dfd m Q Q' go pan := by
  rcases h with ⟨m₁, st₁, hk, hu, hn, hwf, h⟩ | h
  · rcases h' m₁ st₁ hk with ⟨m', st', hk', hu', hn', hwf', h'⟩ | ⟨m', v, st', hk', hu', hn', hwf', h'⟩
    · refine .inl ⟨m', st', hk', hu.trans hu', by omega, fun hw => hwf' (hwf hw), fun N μ w mf cs0 cs hw hf hr hfr hq hcs hne => ?_⟩
      obtain ⟨μ₁, w₁, mf₁, cs₁, hp, hs, hfr₁, hq₁, hcs₁⟩ := h N μ w mf cs0 cs hw (hf.left hn') hr hfr hq hcs hne
      obtain ⟨μ', w', mf', cs', hp', hs', hfr', hq', hcs'⟩ := h' N μ₁ w₁ mf₁ cs0 cs₁ (hwf hw) (hf.right hp hn) hp.rel hfr₁ hq₁ hcs₁ hne
      exact ⟨μ', w', mf', cs', hp.trans hp' hn hn', hs.trans hs', hfr', hq', hcs'⟩
    · refine .inr ⟨m', v, st', hk', hu.trans hu', by omega, fun hw => hwf' (hwf hw), fun N μ w mf cs0 cs hw hf hr hfr hq hcs hne => ?_⟩
      obtain ⟨μ₁, w₁, mf₁, cs₁, hp, hs, hfr₁, hq₁, hcs₁⟩ := h N μ w mf cs0 cs hw (hf.left hn') hr hfr hq hcs hne
      obtain ⟨μ', w', mf', cs', V, hp', hs', hfr', hq', hv, hcs'⟩ := h' N μ₁ w₁ mf₁ cs0 cs₁ (hwf hw) (hf.right hp hn) hp.rel hfr₁ hq₁ hcs₁ hne
      exact ⟨μ', w', mf', cs', V, hp.trans hp' hn hn', hs.trans hs', hfr', hq', hv, hcs'⟩
  · exact .inr h

/-- One operation. -/
theorem op_goes {ihr : Run} (ih : RunOk P G ihr) {fn : FuncId} {sz : Nat} {rnd : Option Nat} {dfd : Bool} {tm : T AV} {defs : List DItem} {up : Option AV} {recd : Bool} {st : St} {ops : Array Oper} {i : Nat} {rest : List Nat} {k : List Item} {o : Oper}
    {go : Mv → St → Bool} {pan : Mv → AV → St → Bool} (ho : ops[i]? = some o) (hw : wantedK ops o tm = true) (hb : badDefer rnd o = false)
    (h : opK P G o tm st (fun nx st => afterK P ihr sz rnd dfd ⟨tm, defs, up, recd⟩ o.dst nx st go (pan ⟨tm, defs, up, recd⟩)) = true) :
    Goes P G st fn sz rnd dfd ⟨tm, defs, up, recd⟩ (fun _ => InR ops (i :: rest) k) (fun _ => InR ops rest k) go pan := by
  obtain ⟨nx, st₁, h1, hn1, hwf1, hop⟩ := opK_sound h
  have at1 : ∀ N μ w mf cs, Wf st → Fresh μ st.next st₁.next → Rel G N μ st w → FR0 μ fn tm sz defs rnd dfd mf → InR ops (i :: rest) k mf →
      ∃ μ₁ w₁, Post G N st μ w st₁ μ₁ w₁ ∧ AtOp P ops o.dst rest k (OutR μ₁ st₁ w₁ nx) mf cs w := by
    intro N μ w mf cs hwf hf hr hfr hq
    obtain ⟨μ₁, w₁, hp, hR⟩ := hop N μ w mf.eval hwf hf hr (fun x _ => hfr.eval x)
    refine ⟨μ₁, w₁, hp, hq.1, ⟨i, hq.2, by rw [ho]; rfl⟩, _, st_op hq.1 hq.2 ho (by rw [wanted_eq hfr.htm]; exact hw) ?_, hR⟩
    have hrr := hfr.hrnd
    cases rnd with
    | none => exact .inl hrr
    | some l =>
      refine .inr fun c hc => ?_
      simp [badDefer, hc] at hb
  rcases afterK_true ih h1 (fn := fn) with ⟨m', st', hk, hu, hn, hwf, ha⟩ | ⟨v, st', hk, hn, hwf, ha⟩
  · refine .inl ⟨m', st', hk, hu, by omega, fun hw => hwf (hwf1 hw), fun N μ w mf cs0 cs hwf0 hf hr hfr hq hcs hne => ?_⟩
    obtain ⟨μ₁, w₁, hp, hat⟩ := at1 N μ w mf cs hwf0 (hf.left hn) hr hfr hq
    have hle := hp.le (hf.left hn)
    obtain ⟨μ', w', mf', cs', hp', hs, hfr', hq', hcs'⟩ := ha N μ₁ w₁ w mf cs0 cs ops rest k (hwf1 hwf0) (hf.right hp hn1) hp.rel (hfr.mono hle) hat (hcs.mono hle) hne
    exact ⟨μ', w', mf', cs', hp.trans hp' hn1 hn, hs, hfr', hq', hcs'⟩
  · refine .inr ⟨_, v, st', hk, UpOk.refl _ _, by omega, fun hw => hwf (hwf1 hw), fun N μ w mf cs0 cs hwf0 hf hr hfr hq hcs hne => ?_⟩
    obtain ⟨μ₁, w₁, hp, hat⟩ := at1 N μ w mf cs hwf0 (hf.left hn) hr hfr hq
    have hle := hp.le (hf.left hn)
    obtain ⟨μ', w', mf', cs', V, hp', hs, hfr', hq', hv, hcs'⟩ := ha N μ₁ w₁ w mf cs0 cs ops rest k (hwf1 hwf0) (hf.right hp hn1) hp.rel (hfr.mono hle) hat (hcs.mono hle) hne
    exact ⟨μ', w', mf', cs', V, hp.trans hp' hn1 hn, hs, hfr', hq', hv, hcs'⟩

/-- An operation that is not wanted. -/
theorem skip_goes {fn : FuncId} {sz : Nat} {rnd : Option Nat} {dfd : Bool} {tm : T AV} {defs : List DItem} {up : Option AV} {recd : Bool} {st : St} {ops : Array Oper} {i : Nat} {rest : List Nat} {k : List Item} {o : Oper}
    {go : Mv → St → Bool} {pan : Mv → AV → St → Bool} (ho : ops[i]? = some o) (hw : wantedK ops o tm = false)
    (h : setTK tm sz o.dst aundef (fun tm => go ⟨tm, defs, up, recd⟩ st) = true) :
    Goes P G st fn sz rnd dfd ⟨tm, defs, up, recd⟩ (fun _ => InR ops (i :: rest) k) (fun _ => InR ops rest k) go pan := by
  obtain ⟨tm', hk, hT⟩ := setTK_true h
  refine .inl ⟨⟨tm', defs, up, recd⟩, st, hk, UpOk.refl _ _, Nat.le_refl _, fun h => h, fun N μ w mf cs0 cs _ _ hr hfr hq hcs _ => ?_⟩
  have hd : (ops[i]?).bind (·.dst) = o.dst := by rw [ho]; rfl
  obtain ⟨h1, h2, h3⟩ := hfr.finish hq.2 (V := undef) (tm' := tm') (by rw [hd]; exact hT μ _ undef hfr.htm (by simp [VR, aundef, undef])) hq.1
  refine ⟨μ, w, _, cs, Post.refl hr, .one (st_op_skip hq.1 hq.2 ?_), h1, ⟨h3, h2⟩, hcs⟩
  rw [ho]; simp only [Option.map_some, Option.getD_some]; rw [wanted_eq hfr.htm]; exact hw

theorem regK_true {ihr : Run} (ih : RunOk P G ihr) {fn : FuncId} {sz : Nat} {rnd : Option Nat} {dfd : Bool} {ops : Array Oper} {k : List Item} {go : Mv → St → Bool} {pan : Mv → AV → St → Bool} :
    ∀ (os : List Oper) (i : Nat) (m : Mv) (st : St), os = ops.toList.drop i → regK P G ihr sz rnd dfd ops pan os m st go = true →
      Goes P G st fn sz rnd dfd m (fun _ => InR ops (List.range' i (ops.size - i)) k) (fun _ mf => mf.mode = .run ∧ mf.todo = k) go pan
  | [], i, m, st, hos, h => by
    have hi : ops.size ≤ i := by
      have := congrArg List.length hos; simp at this; omega
    have h0 : ops.size - i = 0 := by omega
    refine Goes.done h fun N μ w mf cs hr hfr hq => ⟨{ mf with todo := k }, .one (st_region_end hq.1 (by rw [hq.2, h0]; rfl)), ⟨hfr.hfn, hfr.htm, hfr.hdefs, hfr.hkind, hfr.hrnd, hfr.plain⟩, hq.1, rfl⟩
  | o :: os, i, m, st, hos, h => by
    obtain ⟨tm, defs, up, recd⟩ := m
    have hi : i < ops.size := by
      have := congrArg List.length hos; simp at this; omega
    have ho : ops[i]? = some o := by
      have := congrArg (·[0]?) hos
      simp only [List.getElem?_cons_zero, List.getElem?_drop, Nat.add_zero] at this
      rw [← Array.getElem?_toList]; exact this.symm
    have hos' : os = ops.toList.drop (i + 1) := by
      have := congrArg List.tail hos
      simpa using this
    have hr' : List.range' i (ops.size - i) = i :: List.range' (i + 1) (ops.size - (i + 1)) := by
      rw [show ops.size - i = (ops.size - (i + 1)) + 1 by omega, List.range'_succ]
    rw [hr']
    simp only [regK] at h
    split at h
    · rename_i hw
      exact (skip_goes (go := fun m st => regK P G ihr sz rnd dfd ops pan os m st go) ho hw h).trans fun m₁ st₁ h₁ => regK_true ih os (i + 1) m₁ st₁ hos' h₁
    · rename_i hw
      split at h
      · cases h
      · rename_i hb
        exact (op_goes ih ho hw hb h).trans fun m₁ st₁ h₁ => regK_true ih os (i + 1) m₁ st₁ hos' h₁
end
end Go.Shd
/- A frame that is left: its deferred calls, its results. -/
namespace Go.Shd
noncomputable section
variable {G : Globals} {P : Program}

/-- The mode of a frame that is left. -/
def ModeR (μ : Mu) (mode : Option AV) (mf : Frame) : Prop :=
  match mode with
  | none => mf.mode = .returning
  | some v => ∃ V, VR μ v V ∧ mf.mode = .panicking [{ v := V, recovered := false }]

def resOne (arr : Array Value) : ResultVar → Sem Value
  | .tmp t => pure (arr.getD t undef)
  | .cell a t => do loadVar t (← asAddr (arr.getD a undef))

theorem resK_true {tm : T AV} {st : St} : ∀ {l : List ResultVar} {K : List AV → Bool}, resK P G tm st l K = true → ∃ vs, K vs = true ∧ vs.length = l.length ∧
    ∀ N μ w (arr : Array Value) sz, Rel G N μ st w → TR μ tm sz arr → ∃ Vs : List Value, VRs μ vs Vs ∧ (l.mapM (resOne arr)).run P w = .ok Vs w
  | [], K, h => ⟨[], h, rfl, fun N μ w arr sz _ _ => ⟨[], by simp, by simp⟩⟩
  | .tmp t :: l, K, h => by
    simp only [resK] at h
    obtain ⟨v, h1, hv⟩ := evK_true h
    clear h
    obtain ⟨vs, h2, hlen, hvs⟩ := resK_true h1
    refine ⟨v :: vs, h2, by simp [hlen], fun N μ w arr sz hr ht => ?_⟩
    obtain ⟨Vs, h3, h4⟩ := hvs N μ w arr sz hr ht
    refine ⟨arr.getD t undef :: Vs, ?_, ?_⟩
    · simp only [VRs_cons_cons]
      exact ⟨hv μ (fun _ => arr.getD t undef) (ht.2 t), h3⟩
    · simp [List.mapM_cons, resOne, h4]
  | .cell a t :: l, K, h => by
    simp only [resK] at h
    obtain ⟨av, h1, ha⟩ := evK_true h
    clear h
    obtain ⟨v, h2, hv⟩ := loadK_true h1
    clear h1
    obtain ⟨vs, h3, hlen, hvs⟩ := resK_true h2
    refine ⟨v :: vs, h3, by simp [hlen], fun N μ w arr sz hr ht => ?_⟩
    obtain ⟨Vs, h4, h5⟩ := hvs N μ w arr sz hr ht
    obtain ⟨V, r, off, e1, e2, e3⟩ := hv N μ w (arr.getD a undef) hr (ha μ (fun _ => arr.getD a undef) (ht.2 a))
    refine ⟨V :: Vs, by simp only [VRs_cons_cons]; exact ⟨e3, h4⟩, ?_⟩
    simp [List.mapM_cons, resOne, e1, asAddr, e2, h5]

theorem results_run {fd : Func} {arr : Array Value} {w : World} {Vs : List Value} (h : (fd.results.toList.mapM (resOne arr)).run P w = .ok Vs w) :
    (results fd arr).run P w = .ok (if h : Vs.length = 1 then Vs[0] else .tuple Vs.toArray) w := by
  have e : results fd arr = (do
    let vs ← fd.results.mapM (resOne arr)
    pure (if h : vs.size = 1 then vs[0] else .tuple vs)) := by
    unfold results
    congr 2
  rw [e, Array.mapM_eq_mapM_toList]
  simp only [map_eq_pure_bind, Sem.run_bind, h, Result.andThen_ok, Sem.run_pure]
  congr 1

/-- One step of a frame that is left, a deferred call ahead. -/
theorem st_deferred {mf : Frame} {cs : List Frame} {w : World} {f : FuncId} {fd : Func} {C A : Array Value} {ds : List Deferred} (hm : mf.mode ≠ .run) (hd : mf.defers = { target := .fn (.func f) C, args := A } :: ds)
    (hf : P.funcs[f]? = some fd) (hb : ∃ c, fd.body = some c) (hn : fd.name ≠ "runtime.NumGoroutine") :
    step P (lone mf cs w) = .next (lone (Frame.enter P f (A ++ C) .deferred) ({ mf with defers := ds } :: cs) w) := by
  obtain ⟨c, hb⟩ := hb
  refine step_lone_go ?_
  have : (invoke (.fn (.func f) C) A).run P w = .ok (.enter f (A ++ C)) w := by simp [invoke, callFunc, hf, hb, hn]
  cases hmm : mf.mode with
  | run => exact absurd hmm hm
  | returning => simp [stepG, hmm, unwind, hd, callDeferred, this]
  | panicking ch => simp [stepG, hmm, unwind, hd, callDeferred, this]

theorem st_collected {mf : Frame} {cs : List Frame} {w : World} {r : Nat} {ds : List Deferred} (hm : mf.mode ≠ .run) (hd : mf.defers = { target := .collected r, args := #[] } :: ds)
    (hb : w.heap[r]? = some (.deferred (some []))) : step P (lone mf cs w) = .next (lone { mf with defers := ds } cs (wput w r (.deferred none))) := by
  refine step_lone_go ?_
  have hg := run_getO (P := P) hb (by intros; simp)
  have hs := run_setO (P := P) (.deferred none) hb (by intros; simp)
  have : (Instr.takeDeferred r).run P w = .ok [] (wput w r (.deferred none)) := by simp [Instr.takeDeferred, hg, hs]
  cases hmm : mf.mode with
  | run => exact absurd hmm hm
  | returning => simp [stepG, hmm, unwind, hd, this]
  | panicking ch => simp [stepG, hmm, unwind, hd, this]

/-- The end of a deferred call's frame. -/
theorem st_deferred_end {mf c : Frame} {cs : List Frame} {w : World} {V : Value} {fd : Func} (hm : mf.mode = .returning) (hd : mf.defers = []) (hk : mf.kind = .deferred) (hf : P.funcs[mf.fn]? = some fd) (hr : (results fd mf.tmps).run P w = .ok V w) :
    step P (lone mf (c :: cs) w) = .next (lone (match c.mode with
      | .panicking ({ recovered := true, .. } :: older) => match older.dropWhile (!·.goexit) with
        | [] => { c with mode := .returning }
        | rest => { c with mode := .panicking rest }
      | _ => c) cs w) := by
  refine step_lone_go ?_
  simp [stepG, hm, unwind, hd, hf, hr, doReturn, hk]
  rfl
end
end Go.Shd
/- A frame that is left: all of it. -/
namespace Go.Shd
noncomputable section
variable {G : Globals} {P : Program}

theorem ownName_false {f : FuncId} {fd : Func} (h : ownName P f = false) (hf : P.funcs[f]? = some fd) : fd.name ≠ "runtime.NumGoroutine" := by
  unfold ownName at h
  split at h
  · rename_i fd' h'
    have := tfunc_some P h'
    rw [hf] at this; cases this
    simpa using h
  · cases h

theorem enterK_body {f : FuncId} {args : List AV} {dfd : Bool} {up : Option AV} {K : Fr → Bool} (h : enterK P f args dfd up K = true) : ∃ fd c, P.funcs[f]? = some fd ∧ fd.body = some c := by
  unfold enterK at h
  split at h
  case h_2 => cases h
  rename_i fd hf
  split at h
  case h_2 => cases h
  rename_i c hc
  exact ⟨fd, c, tfunc_some P hf, hc⟩

theorem unwindK_true {ihr : Run} (ih : RunOk P G ihr) {f : FuncId} {tm : T AV} {sz : Nat} {dfd : Bool} {up : Option AV} {recd : Bool} : ∀ (ds : List DItem) (mode : Option AV) (st : St) (K : AEnd → St → Bool),
    unwindK P G ihr f tm dfd recd mode ds st K = true → From P G st K f tm sz ds none dfd up recd (fun μ mf => ModeR μ mode mf)
  | [], none, st, K, h => by
    simp only [unwindK] at h
    split at h
    case h_2 => cases h
    rename_i fd hf
    have hf := tfunc_some P hf
    obtain ⟨vs, h1, hlen, hvs⟩ := resK_true h
    clear h
    have main : ∃ v, K (.ret v recd) st = true ∧ ∀ μ (Vs : List Value), VRs μ vs Vs → VR μ v (if h : Vs.length = 1 then Vs[0] else .tuple Vs.toArray) := by
      split at h1
      · rename_i v
        refine ⟨v, h1, fun μ Vs hV => ?_⟩
        obtain ⟨V, rfl, hv⟩ := hV.one
        simpa using hv
      · rename_i hn
        refine ⟨_, h1, fun μ Vs hV => ?_⟩
        have hl := hV.len
        have : ¬ Vs.length = 1 := by
          intro e
          rw [e] at hl
          match vs, hl with
          | [v], _ => exact hn v rfl
        simp only [this, dif_neg, not_false_iff]
        exact ⟨_, rfl, by simpa using hV⟩
    obtain ⟨v, hk, hv⟩ := main
    refine ⟨_, st, hk, Nat.le_refl _, fun h => h, fun N μ w mf cs0 cs hw hfr hr hF hq hcs hne => ⟨μ, w, Post.refl hr, ?_⟩⟩
    obtain ⟨Vs, h2, h3⟩ := hvs N μ w mf.tmps sz hr hF.htm
    exact ⟨mf, cs, up, recd, UpOk.refl _ _, Steps.refl _ _, hF.hfn, hF.hdefs, hF.hkind, hcs, hq, fun _ => rfl, _, fd, hf, results_run h3, hv μ Vs h2⟩
  | [], some v, st, K, h => by
    simp only [unwindK] at h
    split at h
    case h_2 => cases h
    rename_i fd hf
    have hf := tfunc_some P hf
    refine ⟨_, st, h, Nat.le_refl _, fun h => h, fun N μ w mf cs0 cs hw hfr hr hF hq hcs hne => ⟨μ, w, Post.refl hr, ?_⟩⟩
    obtain ⟨V, hv, hm⟩ := hq
    exact ⟨mf, cs, up, recd, UpOk.refl _ _, Steps.refl _ _, hF.hfn, hF.hdefs, hF.hkind, hcs, rfl, V, hm, hv, fd, hf⟩
  | .coll id :: ds, mode, st, K, h => by
    have h : (match st.heap.get (key id) with
      | some .dfr => setBlkK st id none fun st => unwindK P G ihr f tm dfd recd mode ds st K
      | _ => false) = true := by cases mode <;> (simp only [unwindK] at h; exact h)
    split at h
    case h_2 => cases h
    rename_i hb
    rw [setBlkK_eq] at h
    refine (unwindK_true ih (sz := sz) (up := up) ds mode _ K h).turn (UpOk.refl _ _) (Nat.le_refl _) (fun hw => hw.setB hb none (by intro b h; cases h)) fun N μ w mf cs0 cs hw hf hr hF hq hcs hne => ?_
    obtain ⟨D, m', e1, ⟨r, hm, e2⟩, hds⟩ := hF.hdefs
    subst e2
    obtain ⟨r', hm', hN, hlt, hob⟩ := hr.blk id _ hb rfl
    rw [hm] at hm'; cases hm'
    have hmode : mf.mode ≠ .run := by
      cases mode with
      | none => rw [show mf.mode = .returning from hq]; simp
      | some v => obtain ⟨V, _, hmm⟩ := hq; rw [hmm]; simp
    refine ⟨μ, _, { mf with defers := m' }, cs, Post.turn hr hb rfl hm (.deferred none) ?_ ?_, .one (st_collected hmode e1 hob), ⟨hF.hfn, hF.htm, hds, hF.hkind, hF.hrnd, hF.plain⟩, ?_, hcs⟩
    · intro b' h'
      simp [St.setB, T.get_set] at h'
    · intro id2 b2 hne2 h2
      simp only [St.setB, T.get_set, hne2, if_false] at h2
      exact ⟨h2, by rintro ⟨g, hg, _⟩; cases hg⟩
    · cases mode with
      | none => exact hq
      | some v => exact hq
  | .call d :: ds, mode, st, K, h => by
    have h : (match ownName P d.f with
      | true => false
      | false => enterK P d.f d.args true mode fun g => ihr g st fun e st => match e with
        | .ret _ true => unwindK P G ihr f tm dfd recd none ds st K
        | .ret _ false => unwindK P G ihr f tm dfd recd mode ds st K
        | .pan _ => false) = true := by cases mode <;> (simp only [unwindK] at h; exact h)
    split at h
    · cases h
    rename_i hown
    obtain ⟨fd, c, hfd, hbd⟩ := enterK_body h
    have hname := ownName_false hown hfd
    obtain ⟨_, c', tme, sze, _, h1, hE⟩ := enterK_true h
    clear h
    obtain ⟨e, st1, hk, hn, hwf, hrun⟩ := ih _ _ _ h1
    cases e with
    | pan v => simp at hk
    | ret v r =>
      -- the deferred call's frame, run to its end
      have call1 : ∀ N μ w mf cs0 cs, Wf st → Fresh μ st.next st1.next → Rel G N μ st w → FR0 μ f tm sz (.call d :: ds) none dfd mf → ModeR μ mode mf → CsR μ dfd up recd cs0 cs →
          ∃ μ' w' mf', Post G N st μ w st1 μ' w' ∧ Steps P (lone mf cs w) (lone mf' cs w') ∧ FR0 μ' f tm sz ds none dfd mf' ∧ ModeR μ' (if r then none else mode) mf' ∧ CsR μ' dfd up recd cs0 cs := by
        intro N μ w mf cs0 cs hw hf hr hF hq hcs
        obtain ⟨D, m', e1, ⟨C, A, e2, hv⟩, hds⟩ := hF.hdefs
        subst e2
        have hmode : mf.mode ≠ .run := by
          cases mode with
          | none => rw [show mf.mode = .returning from hq]; simp
          | some v => obtain ⟨V, _, hmm⟩ := hq; rw [hmm]; simp
        obtain ⟨hF1, hm1, ht1⟩ := hE μ (A ++ C) (by simpa using hv)
        have hup : UpM μ mode false mf.mode := by
          cases mode with
          | none => exact hq
          | some v => exact hq
        obtain ⟨μ', w', hp, mf2, cs2, up2, recd2, hok, hs, hfn2, hd2, hk2, hcs2, hm2, hrr, V, fd2, hfd2, hres, _⟩ :=
          hrun N μ w (Frame.enter P d.f (A ++ C) .deferred) ({ mf with defers := m' } :: cs) ({ mf with defers := m' } :: cs) hw hf hr hF1 ⟨hm1, ht1⟩ ⟨_, _, mf.mode, rfl, rfl, hup⟩ (by simp)
        have hle := hp.le hf
        obtain ⟨c0, rest0, md, e3, e4, hup2⟩ := hcs2
        cases e3
        subst e4
        have hrr := hrr rfl
        subst hrr
        have hend := st_deferred_end (P := P) (c := { mf with defers := m', mode := md }) (cs := cs) hm2 hd2 hk2 (by rw [hfn2]; exact hfd2) hres
        have hgo := (Steps.head (st_deferred hmode e1 hfd ⟨c, hbd⟩ hname) hs).trans (.one hend)
        have hF' := hF.mono hle
        have hds' := hds.mono hle
        cases r with
        | true =>
          cases up2 with
          | some v2 => exact absurd hup2 (by simp [UpM])
          | none =>
            obtain ⟨V2, rfl⟩ := hup2
            refine ⟨μ', w', _, hp, hgo, ?_, ?_, hcs.mono hle⟩
            · exact ⟨hF'.hfn, hF'.htm, hds', hF'.hkind, hF'.hrnd, hF'.plain⟩
            · rfl
        | false =>
          rcases hok with ⟨hu, _⟩ | hbad
          case inr => cases hbad
          simp only at hu
          rw [hu] at hup2
          cases mode with
          | none =>
            simp only [UpM] at hup2; subst hup2
            refine ⟨μ', w', _, hp, hgo, ?_, ?_, hcs.mono hle⟩
            · exact ⟨hF'.hfn, hF'.htm, hds', hF'.hkind, hF'.hrnd, hF'.plain⟩
            · rfl
          | some v0 =>
            obtain ⟨V2, hV2, rfl⟩ := hup2
            refine ⟨μ', w', _, hp, hgo, ?_, ?_, hcs.mono hle⟩
            · exact ⟨hF'.hfn, hF'.htm, hds', hF'.hkind, hF'.hrnd, hF'.plain⟩
            · exact ⟨V2, hV2, rfl⟩
      have next : From P G st1 K f tm sz ds none dfd up recd (fun μ mf => ModeR μ (if r then none else mode) mf) := by
        cases r with
        | true => exact unwindK_true ih ds none st1 K hk
        | false => exact unwindK_true ih ds mode st1 K hk
      refine next.turn (UpOk.refl _ _) hn hwf fun N μ w mf cs0 cs hw hf hr hF hq hcs hne => ?_
      obtain ⟨μ', w', mf', h2, h3, h4, h5, h6⟩ := call1 N μ w mf cs0 cs hw hf hr hF hq hcs
      exact ⟨μ', w', mf', cs, h2, h3, h4, h5, h6⟩
end
end Go.Shd
/- Panics; the end of a frame's code. -/
namespace Go.Shd
noncomputable section
variable {G : Globals} {P : Program}

theorem panK_true {ihr : Run} (ih : RunOk P G ihr) {f : FuncId} {rnd : Option Nat} {tm : T AV} {sz : Nat} {dfd : Bool} {up : Option AV} {recd : Bool} {v : AV} {defs : List DItem} {st : St} {K : AEnd → St → Bool}
    (h : panK P G ihr f rnd tm dfd recd v defs st K = true) : From P G st K f tm sz defs rnd dfd up recd (fun μ mf => ModeR μ (some v) mf) := by
  unfold panK at h
  split at h
  · exact unwindK_true ih defs (some v) st K h
  · rename_i l
    split at h
    case h_2 => cases h
    rename_i fd hf
    have hf := tfunc_some P hf
    refine ⟨_, st, h, Nat.le_refl _, fun h => h, fun N μ w mf cs0 cs hw hfr hr hF hq hcs hne => ⟨μ, w, Post.refl hr, ?_⟩⟩
    intro c rest hc
    have hd : dfd = false := by
      cases dfd with
      | false => rfl
      | true => have := hF.plain rfl; cases this
    subst hd
    simp only [CsR] at hcs
    subst hcs
    obtain ⟨V, hv, hm⟩ := hq
    rw [hc]
    exact ⟨V, hv, .one (step_leave_panicked ⟨hm, hF.hdefs, fd, by rw [hF.hfn]; exact hf⟩)⟩

/-- The end of a round. -/
theorem st_endRound {mf c : Frame} {cs : List Frame} {w w' : World} {l : Nat} {jump : Option Code} {V : Value} (hm : mf.mode = .run) (hk : mf.kind = .normal) (hr : mf.roundOf = some l)
    (ht : (mf.todo = [] ∧ jump = none) ∨ (∃ k, mf.todo = .code .ret :: k ∧ jump = some .ret) ∨ (∃ id k, mf.todo = .code (.exit id) :: k ∧ exitTo id k = none ∧ jump = some (.exit id)) ∨
      (∃ g k, mf.todo = .code (.goto g) :: k ∧ gotoIn g k = none ∧ jump = some (.goto g))) (he : (Instr.endRound l jump).run P w = .ok V w') :
    step P (lone mf (c :: cs) w) = .next (lone (c.finish V) cs w') := by
  rcases ht with ⟨ht, rfl⟩ | ⟨k, ht, rfl⟩ | ⟨id, k, ht, hx, rfl⟩ | ⟨g, k, ht, hx, rfl⟩
  · exact step_lone_go (by simp [stepG, stepG.exec, hm, ht, hr, he, doReturn, hk])
  · exact step_lone_go (by simp [stepG, stepG.exec, hm, ht, hr, he, doReturn, hk])
  · exact step_lone_go (by simp [stepG, stepG.exec, hm, ht, hr, he, hx, doReturn, hk])
  · exact step_lone_go (by simp [stepG, stepG.exec, hm, ht, hr, he, hx, doReturn, hk])

/-- The frame's code is over, or leaves by a jump that no block of it takes. -/
def Leaves (jump : Option Code) (mf : Frame) : Prop :=
  (mf.todo = [] ∧ jump = none) ∨ (∃ k, mf.todo = .code .ret :: k ∧ jump = some .ret) ∨ (∃ id k, mf.todo = .code (.exit id) :: k ∧ exitTo id k = none ∧ jump = some (.exit id)) ∨
      (∃ g k, mf.todo = .code (.goto g) :: k ∧ gotoIn g k = none ∧ jump = some (.goto g))

theorem exitK_true {ihr : Run} (ih : RunOk P G ihr) {f : FuncId} {rnd : Option Nat} {tm : T AV} {sz : Nat} {dfd : Bool} {up : Option AV} {recd : Bool} {defs : List DItem} {st : St} {jump : Option Code} {K : AEnd → St → Bool}
    (h : exitK P G ihr f tm defs rnd dfd recd st jump K = true) : From P G st K f tm sz defs rnd dfd up recd (fun _ mf => mf.mode = .run ∧ Leaves jump mf) := by
  unfold exitK at h
  split at h
  · -- no round
    have main : unwindK P G ihr f tm dfd recd none defs st K = true ∧ (jump = none ∨ jump = some .ret) := by
      split at h
      · exact ⟨h, .inl rfl⟩
      · exact ⟨h, .inr rfl⟩
      · cases h
    obtain ⟨h1, hj⟩ := main
    refine (unwindK_true ih (sz := sz) (up := up) defs none st K h1).step (UpOk.refl _ _) fun N μ w mf cs0 cs hr hF hq hcs => ?_
    obtain ⟨hm, hl⟩ := hq
    refine ⟨{ mf with mode := .returning }, cs, ?_, ⟨hF.hfn, hF.htm, hF.hdefs, hF.hkind, hF.hrnd, hF.plain⟩, rfl, hcs⟩
    rcases hl with ⟨ht, hj2⟩ | ⟨k, ht, hj2⟩ | ⟨id, k, ht, hx, hj2⟩ | ⟨g, k, ht, hx, hj2⟩
    · exact .one (st_leave (k := []) hm (.inl ht) hF.hrnd)
    · exact .one (st_leave (k := k) hm (.inr ht) hF.hrnd)
    · rcases hj with hj | hj <;> rw [hj2] at hj <;> cases hj
    · rcases hj with hj | hj <;> rw [hj2] at hj <;> cases hj
  · rename_i l
    split at h
    case h_2 => cases h
    rename_i s0 p0 fn0 tm0 sz0 ps0 a0 b0 d0 hb
    have main : ∃ v s1, setBlkK st l (some (.loop s1 jump fn0 tm0 sz0 ps0 a0 b0 d0)) (fun st => K (.ret (.lit (.bool v)) false) st) = true ∧ v = jump.isNone ∧ s1 = (if jump.isNone then LoopState.ready else .done) := by
      split at h
      · exact ⟨true, _, h, rfl, rfl⟩
      · exact ⟨false, _, h, rfl, rfl⟩
    obtain ⟨v, s1, h1, hv, hs1⟩ := main
    rw [setBlkK_eq] at h1
    refine ⟨_, _, h1, Nat.le_refl _, fun hw => hw.setB hb _ (by intro b'' h; cases h; rfl), fun N μ w mf cs0 cs hw hf hr hF hq hcs hne => ?_⟩
    obtain ⟨hm, hl⟩ := hq
    obtain ⟨r, hrm, hro⟩ := hF.hrnd
    obtain ⟨r', hrm', hN, hlt, L, dd, hob, hd, hTR, hs, hp, hfn, hps, has, hbd, hdf⟩ := hr.blk l _ hb rfl
    rw [hrm] at hrm'; cases hrm'
    have hdf0 : dfd = false := by
      cases dfd with
      | false => rfl
      | true => have := hF.plain rfl; cases this
    subst hdf0
    simp only [CsR] at hcs
    subst hcs
    have hg := run_getO (P := P) hob (by intros; simp)
    have hst := fun o' => run_setO (P := P) o' hob (by intros; simp)
    refine ⟨μ, wput w r (.loop { L with state := s1, pending := jump }), Post.setB hr hb rfl rfl hrm _ rfl rfl _ ⟨_, dd, rfl, hd, hTR, rfl, rfl, hfn, hps, has, hbd, hdf⟩, ?_⟩
    intro c rest hc
    subst hc
    refine ⟨.bool v, by simp [VR], .one (st_endRound hm hF.hkind hro hl ?_)⟩
    subst hv hs1
    cases jump <;> simp [Instr.endRound, Instr.getLoop, hg, hst]
end
end Go.Shd
/- 'for .. range f'. -/
namespace Go.Shd
noncomputable section
variable {G : Globals} {P : Program}

/-- The loop's record laid: what 'enterLoop' does. -/
theorem enterLoop_true {fn : FuncId} {tm : T AV} {sz : Nat} {defs : List DItem} {rnd : Option Nat} {params : Array Tmp} {assign body : Code} {st : St} {go : St → Nat → List DItem → Bool}
    (h : loopOfK st rnd defs go = true) :
    ∃ st1 r defs1, go st1 r defs1 = true ∧ st.next ≤ st1.next ∧ (Wf st → Wf st1) ∧
      ∀ N μ w (tmps : Array Value) (ds : List Deferred) ro, Wf st → Fresh μ st.next (st1.next + 1) → Rel G N μ st w → TR μ tm sz tmps → DRs μ defs ds → RndR μ rnd ro →
        ∃ μ2 w2 lw mark, Post G N st μ w (st1.push (.loop .ready none fn tm sz params.toList assign body r)) μ2 w2 ∧ (Instr.enterLoop fn tmps params assign body ro).run P w = .ok (lw, mark) w2 ∧
          μ2.b st1.next = some lw ∧ DRs μ2 defs1 (mark ++ ds) := by
  cases rnd with
  | none =>
    simp only [loopOfK] at h
    rw [newK_push] at h
    refine ⟨_, _, _, h, by simp [St.push], fun hw => hw.push _ (by intro g hg; simp [Blk.grp?] at hg), fun N μ w tmps ds ro hw hf hr ht hd hro => ?_⟩
    simp only [RndR] at hro
    subst hro
    have hn1 : (st.push .dfr).next = st.next + 1 := rfl
    rw [hn1] at hf
    have hf0 : μ.b st.next = none := hf _ (Nat.le_refl _) (by omega)
    have hp1 := Post.new hr hf0 .dfr rfl (.deferred (some [])) 0 rfl
    have hle1 := Mu.le_new (r := w.heap.size) (x := 0) hf0
    have hw1 := hw.push .dfr (by intro g hg; simp [Blk.grp?] at hg)
    have hf1 : (μ.new st.next w.heap.size 0).b (st.push .dfr).next = none := by
      rw [(hp1.ext _ (.inr (Nat.le_refl _))).1, hn1]; exact hf _ (by omega) (by omega)
    have hdb : (μ.new st.next w.heap.size 0).b st.next = some w.heap.size := by simp [Mu.new]
    have hle2 := Mu.le_new (r := (w.alloc (.deferred (some []))).heap.size) (x := 0) hf1
    have hp2 := Post.new hp1.rel hf1 (.loop .ready none fn tm sz params.toList assign body st.next) rfl
      (.loop { state := .ready, pending := none, fn, tmps, params, assign, body, defers := w.heap.size }) 0
      ⟨_, w.heap.size, rfl, (hle2 _ _ hdb).1, (ht.mono hle1).mono hle2, rfl, rfl, rfl, rfl, rfl, rfl, rfl⟩
    refine ⟨_, _, (w.alloc (.deferred (some []))).heap.size, [{ target := .collected w.heap.size, args := #[] }], hp1.trans hp2 (by simp [St.push]) (by simp [St.push]), ?_, by simp [Mu.new], ?_⟩
    · simp [Instr.enterLoop]
    · exact ⟨_, _, rfl, ⟨w.heap.size, (hle2 _ _ hdb).1, rfl⟩, (hd.mono hle1).mono hle2⟩
  | some l =>
    simp only [loopOfK] at h
    split at h
    case h_2 => cases h
    rename_i s0 p0 fn0 tm0 sz0 ps0 a0 b0 r hb
    refine ⟨_, _, _, h, Nat.le_refl _, fun h => h, fun N μ w tmps ds ro hw hf hr ht hd hro => ?_⟩
    obtain ⟨q, hq, rfl⟩ := hro
    obtain ⟨q', hq', hN, hlt, L, dd, hob, hdd, hTR, hs, hp, hfn, hps, has, hbd, hdf⟩ := hr.blk l _ hb rfl
    rw [hq] at hq'; cases hq'
    have hg := run_getO (P := P) hob (by intros; simp)
    have hf0 : μ.b st.next = none := hf _ (Nat.le_refl _) (by omega)
    have hle := Mu.le_new (r := w.heap.size) (x := 0) hf0
    have hp2 := Post.new hr hf0 (.loop .ready none fn tm sz params.toList assign body r) rfl
      (.loop { state := .ready, pending := none, fn, tmps, params, assign, body, defers := dd }) 0
      ⟨_, dd, rfl, (hle _ _ hdd).1, ht.mono hle, rfl, rfl, rfl, rfl, rfl, rfl, rfl⟩
    refine ⟨_, _, w.heap.size, [], hp2, ?_, by simp [Mu.new], ?_⟩
    · simp [Instr.enterLoop, Instr.getLoop, hg, hdf]
    · exact hd.mono hle

/-- One step: the record laid, the function called. -/
theorem st_rangeFunc {mf : Frame} {cs : List Frame} {w w1 w2 : World} {f : Operand} {params : Array Tmp} {assign body : Code} {k : List Item} {lw : Nat} {mark : List Deferred} {g : FuncId} {A : Array Value}
    (hm : mf.mode = .run) (ht : mf.todo = .code (.rangeFunc f params assign body) :: k) (he : (Instr.enterLoop mf.fn mf.tmps params assign body mf.roundOf).run P w = .ok (lw, mark) w1)
    (hc : (do let d ← Deferred.ofValue (mf.eval f) #[.func (.yield lw) #[] #[]]; invoke d.target d.args : Sem Next).run P w1 = .ok (.enter g A) w2) :
    step P (lone mf cs w) = .next (lone (Frame.enter P g A .normal) ({ mf with todo := .inRangeFunc lw :: k, defers := mark ++ mf.defers } :: cs) w2) := by
  refine step_lone_go ?_
  have hev : ∀ x, Frame.eval { mf with todo := .inRangeFunc lw :: k, defers := mark ++ mf.defers } x = mf.eval x := by intro x; cases x <;> rfl
  have hev2 : Frame.eval { mf with todo := .inRangeFunc lw :: k, defers := mark ++ mf.defers } = mf.eval := funext hev
  have hc' : (do let d ← resolve mf.eval { callee := .value f, args := #[.const (.func (.yield lw) #[] #[])], argTypes := #[] } 0; invoke d.target d.args : Sem Next).run P w1 = .ok (.enter g A) w2 := by
    simpa [resolve, Frame.eval] using hc
  rw [hm] at hev2
  simp only [stepG, hm, stepG.exec, ht]
  simp [stepG.apply, hev2, hc', he]
end
end Go.Shd
/- 'for .. range f': all of it. -/
namespace Go.Shd
noncomputable section
variable {G : Globals} {P : Program}

/-- The loop is over. -/
theorem st_endLoop {mf : Frame} {cs : List Frame} {w w1 : World} {lw : Nat} {k : List Item} {jump : Option Code} (hm : mf.mode = .run) (ht : mf.todo = .endRangeFunc lw :: k) (he : (Instr.endLoop lw).run P w = .ok jump w1) :
    step P (lone mf cs w) = .next (lone { mf with todo := (jump.map Item.code).toList ++ k } cs w1) := step_lone_go (by simp [stepG, stepG.exec, hm, ht, he])

theorem rangeK_true {ihr : Run} (ih : RunOk P G ihr) {fr : Fr} {st : St} {f : Operand} {params : Array Tmp} {assign body : Code} {k : List Item} {K : AEnd → St → Bool}
    (h : rangeK P G ihr fr st f params assign body k K = true) :
    From P G st K fr.fn fr.tm fr.sz fr.defs fr.rnd fr.dfd fr.up fr.recd (fun _ mf => mf.mode = .run ∧ mf.todo = .code (.rangeFunc f params assign body) :: k) := by
  obtain ⟨fn, tm, sz, td, defs, rnd, up, dfd, recd⟩ := fr
  simp only [rangeK] at h
  obtain ⟨st1, r, defs1, h1, hn1, hwf1, hent⟩ := enterLoop_true (G := G) (P := P) (fn := fn) (tm := tm) (sz := sz) (params := params) (assign := assign) (body := body) h
  clear h
  rw [newK_push] at h1
  obtain ⟨fv, h2, hfv⟩ := evK_true h1
  clear h1
  obtain ⟨nx, st3, h3, hn3, hwf3, hcall⟩ := callK_true (G := G) h2
  clear h2
  cases nx
  case enter g args =>
    simp only at h3
    obtain ⟨fd, c, tme, sze, hfd, h4, hE⟩ := enterK_true h3
    clear h3
    obtain ⟨e, st4, hk, hn4, hwf4, hrun⟩ := ih _ _ _ h4
    -- the record laid, the function called and run to its end
    have call1 : ∀ N μ w mf cs0 cs, Wf st → Fresh μ st.next st4.next → Rel G N μ st w → FR0 μ fn tm sz defs rnd dfd mf → (mf.mode = .run ∧ mf.todo = .code (.rangeFunc f params assign body) :: k) → CsR μ dfd up recd cs0 cs →
        ∃ μ4 w4 mf1 lw, Post G N st μ w st4 μ4 w4 ∧ FR0 μ4 fn tm sz defs1 rnd dfd mf1 ∧ mf1.mode = .run ∧ mf1.todo = .inRangeFunc lw :: k ∧ μ4.b st1.next = some lw ∧ CsR μ4 dfd up recd cs0 cs ∧
          EndR P μ4 w4 g none false none false (mf1 :: cs) e (lone mf cs w) := by
      intro N μ w mf cs0 cs hw hf hr hF hq hcs
      have hn2 : (st1.push (.loop .ready none fn tm sz params.toList assign body r)).next = st1.next + 1 := rfl
      rw [hn2] at hn3
      obtain ⟨μ2, w2, lw, mark, hp2, he2, hlw, hd2⟩ := hent N μ w mf.tmps mf.defers mf.roundOf hw (hf.left (by omega)) hr hF.htm hF.hdefs hF.hrnd
      have hw2 : Wf (st1.push (.loop .ready none fn tm sz params.toList assign body r)) := (hwf1 hw).push _ (by intro g hg; simp [Blk.grp?] at hg)
      have hf2 : Fresh μ2 (st1.next + 1) st4.next := hf.right hp2 (by rw [hn2]; omega)
      have hle2 := hp2.le (hf.left (by rw [hn2]; omega))
      have hF2 := hF.mono hle2
      obtain ⟨μ3, w3, hp3, A, hA, hvA⟩ := hcall N μ2 w2 (mf.eval f) #[.func (.yield lw) #[] #[]] hw2 (by rw [hn2]; exact hf2.left hn4) hp2.rel (hfv μ2 mf.eval (hF2.eval f)) (by simp only [VRs_cons_cons, VRs_nil, and_true]; exact ⟨lw, hlw, rfl⟩)
      have hf3 : Fresh μ3 st3.next st4.next := hf2.right hp3 (by rw [hn2]; exact hn3)
      have hle3 := hp3.le (by rw [hn2]; exact hf2.left hn4)
      obtain ⟨hF4, hm4, ht4⟩ := hE μ3 A hvA
      have hw3 := hwf3 hw2
      obtain ⟨μ4, w4, hp4, hend⟩ := hrun N μ3 w3 (Frame.enter P g A .normal) ({ mf with todo := .inRangeFunc lw :: k, defers := mark ++ mf.defers } :: cs) ({ mf with todo := .inRangeFunc lw :: k, defers := mark ++ mf.defers } :: cs)
        hw3 hf3 hp3.rel hF4 ⟨hm4, ht4⟩ rfl (by simp)
      have hle4 := hp4.le hf3
      have hF5 := (hF2.mono hle3).mono hle4
      refine ⟨μ4, w4, { mf with todo := .inRangeFunc lw :: k, defers := mark ++ mf.defers }, lw, (hp2.trans hp3 (by rw [hn2]; omega) (by rw [hn2]; exact hn3)).trans hp4 (by omega) hn4,
        ⟨hF5.hfn, hF5.htm, (hd2.mono hle3).mono hle4, hF5.hkind, hF5.hrnd, hF5.plain⟩, hq.1, rfl, (hle4 _ _ (hle3 _ _ hlw).1).1, ((hcs.mono hle2).mono hle3).mono hle4, ?_⟩
      exact hend.of_steps (.one (st_rangeFunc hq.1 hq.2 (by rw [hF.hfn]; exact he2) hA)) (UpOk.refl _ _)
    have hnall : st.next ≤ st4.next := by
      have : (st1.push (.loop .ready none fn tm sz params.toList assign body r)).next = st1.next + 1 := rfl
      rw [this] at hn3; omega
    have hwall : Wf st → Wf st4 := fun hw => hwf4 (hwf3 ((hwf1 hw).push _ (by intro g hg; simp [Blk.grp?] at hg)))
    cases e with
    | pan v =>
      simp only at hk
      refine (panK_true ih (sz := sz) (up := up) hk).turn (UpOk.refl _ _) hnall hwall fun N μ w mf cs0 cs hw hf hr hF hq hcs hne => ?_
      obtain ⟨μ4, w4, mf1, lw, hp, hF1, hm1, ht1, _, hcs1, mf2, cs2, up', recd', _, hs, hfn2, hd2, hk2, hcs2, _, V, hmode, hv, fd', hfd'⟩ := call1 N μ w mf cs0 cs hw hf hr hF hq hcs
      simp only [CsR] at hcs2; subst hcs2
      have hra : mf1.raise [{ v := V, recovered := false }] = { mf1 with mode := .panicking [{ v := V, recovered := false }] } := by simp [Frame.raise, hm1]
      refine ⟨μ4, w4, mf1.raise [{ v := V, recovered := false }], cs, hp, hs.trans (.one (step_leave_panicked ⟨hmode, hd2, fd', by rw [hfn2]; exact hfd'⟩)), ?_, ⟨V, hv, by rw [hra]⟩, hcs1⟩
      rw [hra]; exact ⟨hF1.hfn, hF1.htm, hF1.hdefs, hF1.hkind, hF1.hrnd, hF1.plain⟩
    | ret v rr =>
      simp only at hk
      split at hk
      case h_2 => cases hk
      rename_i s0 pending fn0 tm0 sz0 ps0 a0 b0 d0 hb
      have main : s0 ≠ .busy ∧ setBlkK st4 st1.next (some (.loop .exhausted pending fn0 tm0 sz0 ps0 a0 b0 d0)) (fun st => ihr ⟨fn, tm, sz, (pending.map Item.code).toList ++ k, defs1, rnd, up, dfd, recd⟩ st K) = true := by
        split at hk
        · cases hk
        · rename_i hs0
          refine ⟨fun e => hs0 e, ?_⟩
          rw [setBlkK_eq] at hk ⊢
          cases pending <;> exact hk
      obtain ⟨hs0, hk⟩ := main
      rw [setBlkK_eq] at hk
      have nextF := ih _ _ _ hk
      refine nextF.turn (UpOk.refl _ _) hnall (fun hw => (hwall hw).setB hb _ (by intro b'' h; cases h; rfl)) fun N μ w mf cs0 cs hw hf hr hF hq hcs hne => ?_
      obtain ⟨μ4, w4, mf1, lw, hp, hF1, hm1, ht1, hlw, hcs1, mf2, cs2, up', recd', _, hs, hfn2, hd2, hk2, hcs2, hmode, _, V, fd', hfd', hres, hv⟩ := call1 N μ w mf cs0 cs hw hf hr hF hq hcs
      simp only [CsR] at hcs2; subst hcs2
      obtain ⟨q, hq', hN, hlt, L, dd, hob, hdd, hTR, hs1, hp1, hfn1, hps, has, hbd, hdf⟩ := hp.rel.blk _ _ hb rfl
      rw [hlw] at hq'; cases hq'
      have hg := run_getO (P := P) hob (by intros; simp)
      have hst := fun o' => run_setO (P := P) o' hob (by intros; simp)
      have hend : (Instr.endLoop lw).run P w4 = .ok pending (wput w4 lw (.loop { L with state := .exhausted })) := by
        have : L.state ≠ .busy := by rw [hs1]; exact hs0
        simp [Instr.endLoop, Instr.getLoop, hg, hst, this, hp1]
      have hfin : mf1.finish V = { mf1 with todo := .endRangeFunc lw :: k } := by simp [Frame.finish, ht1]
      have hpp := Post.setB hp.rel hb rfl rfl hlw (.loop .exhausted pending fn0 tm0 sz0 ps0 a0 b0 d0) rfl rfl (.loop { L with state := .exhausted }) ⟨_, dd, rfl, hdd, hTR, rfl, hp1, hfn1, hps, has, hbd, hdf⟩
      refine ⟨μ4, _, { mf1 with todo := (pending.map Item.code).toList ++ k }, cs, hp.trans hpp hnall (Nat.le_refl _), (hs.trans (.one (step_leave_returned ⟨hmode, hd2, hk2, fd', by rw [hfn2]; exact hfd', hres⟩))).trans (.one ?_),
        ⟨hF1.hfn, hF1.htm, hF1.hdefs, hF1.hkind, hF1.hrnd, hF1.plain⟩, ⟨hm1, rfl⟩, hcs1⟩
      rw [hfin]
      exact st_endLoop hm1 rfl hend
  all_goals (cases h3; done)
end
end Go.Shd
/- Orders: the one that the shadow goes by, and those that the machine draws. -/
namespace Go.Shd

/-! ### Lists -/
theorem pigeon : ∀ (l m : List Nat), l.Nodup → (∀ x ∈ l, x ∈ m) → m.length ≤ l.length → ∀ x ∈ m, x ∈ l
  | [], m, _, _, hlen, x, hx => by
    have : m = [] := List.length_eq_zero_iff.1 (by simpa using hlen)
    subst this; cases hx
  | a :: l, m, hn, hs, hlen, x, hx => by
    have ha : a ∈ m := hs a (by simp)
    obtain ⟨hna, hnl⟩ := List.nodup_cons.1 hn
    by_cases e : x = a
    · simp [e]
    · have h1 : x ∈ m.erase a := (List.mem_erase_of_ne e).2 hx
      refine List.mem_cons_of_mem _ (pigeon l (m.erase a) hnl (fun y hy => (List.mem_erase_of_ne (by rintro rfl; exact hna hy)).2 (hs y (by simp [hy]))) ?_ x h1)
      rw [List.length_erase_of_mem ha]; simp at hlen; omega

theorem pairwise_of_split {R : Nat → Nat → Prop} : ∀ (p l : List Nat), (∀ a j b, p ++ l = a ++ j :: b → p.length ≤ a.length → ∀ i ∈ b, R j i) → l.Pairwise R
  | _, [], _ => List.Pairwise.nil
  | p, x :: l, h => by
    refine List.Pairwise.cons (h p x l rfl (Nat.le_refl _)) (pairwise_of_split (p ++ [x]) l fun a j b e hl => h a j b (by simpa using e) (by simp at hl; omega))

/-! ### Who is before whom -/
def rowB (acc : Array Nat) (o : Oper) : Nat := o.after.foldl (fun s e => if Region.binds .any e then s ||| 2 ^ e.on ||| acc.getD e.on 0 else s) 0

theorem rowB_bit {acc : Array Nat} : ∀ (l : List Edge) (s i : Nat), (l.foldl (fun s e => if Region.binds .any e then s ||| 2 ^ e.on ||| acc.getD e.on 0 else s) s).testBit i = true →
    s.testBit i = true ∨ ∃ e ∈ l, Region.binds .any e = true ∧ (e.on = i ∨ (acc.getD e.on 0).testBit i = true)
  | [], s, i, h => .inl h
  | e :: l, s, i, h => by
    rw [List.foldl_cons] at h
    rcases rowB_bit l _ i h with h | ⟨e', he, hb, h⟩
    · split at h
      · rename_i hb
        rw [Nat.testBit_or, Nat.testBit_or, Nat.testBit_two_pow] at h
        simp only [Bool.or_eq_true, decide_eq_true_eq] at h
        rcases h with (h | h) | h
        · exact .inl h
        · exact .inr ⟨e, by simp, hb, .inl h⟩
        · exact .inr ⟨e, by simp, hb, .inr h⟩
      · exact .inl h
    · exact .inr ⟨e', by simp [he], hb, h⟩

theorem rowB_keep {acc : Array Nat} : ∀ (l : List Edge) (s i : Nat), s.testBit i = true → (l.foldl (fun s e => if Region.binds .any e then s ||| 2 ^ e.on ||| acc.getD e.on 0 else s) s).testBit i = true
  | [], s, i, h => h
  | e :: l, s, i, h => by
    rw [List.foldl_cons]
    refine rowB_keep l _ i ?_
    split
    · rw [Nat.testBit_or, Nat.testBit_or, h]; rfl
    · exact h

theorem rowB_edge {acc : Array Nat} : ∀ (l : List Edge) (s : Nat) (e : Edge), e ∈ l → Region.binds .any e = true → (l.foldl (fun s e => if Region.binds .any e then s ||| 2 ^ e.on ||| acc.getD e.on 0 else s) s).testBit e.on = true
  | e' :: l, s, e, he, hb => by
    rw [List.foldl_cons]
    rcases List.mem_cons.1 he with rfl | he
    · refine rowB_keep l _ _ ?_
      rw [if_pos hb, Nat.testBit_or, Nat.testBit_or, Nat.testBit_two_pow]; simp
    · exact rowB_edge l _ e he hb

theorem before_list : ∀ (l : List Oper) (acc : Array Nat), (l.foldl (fun acc o => acc.push (rowB acc o)) acc).size = acc.size + l.length ∧
    (∀ j, j < acc.size → (l.foldl (fun acc o => acc.push (rowB acc o)) acc)[j]? = acc[j]?) ∧
    ∀ j o, l[j]? = some o → ∃ acc', (l.foldl (fun acc o => acc.push (rowB acc o)) acc)[acc.size + j]? = some (rowB acc' o) ∧ acc'.size = acc.size + j ∧
      ∀ k, k < acc'.size → acc'[k]? = (l.foldl (fun acc o => acc.push (rowB acc o)) acc)[k]?
  | [], acc => by simp
  | o :: l, acc => by
    obtain ⟨h1, h2, h3⟩ := before_list l (acc.push (rowB acc o))
    simp only [Array.size_push] at h1 h2 h3
    rw [List.foldl_cons]
    refine ⟨by rw [h1]; simp; omega, fun j hj => ?_, fun j o' hj => ?_⟩
    · rw [h2 j (by omega), Array.getElem?_push_lt hj, Array.getElem?_eq_getElem hj]
    · cases j with
      | zero =>
        simp at hj; subst hj
        refine ⟨acc, ?_, by simp, fun k hk => ?_⟩
        · rw [Nat.add_zero, h2 acc.size (by omega)]; simp
        · rw [h2 k (by omega), Array.getElem?_push_lt hk, Array.getElem?_eq_getElem hk]
      | succ j =>
        simp at hj
        obtain ⟨acc', h4, h5, h6⟩ := h3 j o' hj
        exact ⟨acc', by rw [show acc.size + (j + 1) = acc.size + 1 + j by omega]; exact h4, by omega, h6⟩

theorem before_eq (ops : Array Oper) : Region.before ops = ops.toList.foldl (fun acc o => acc.push (rowB acc o)) #[] := by
  unfold Region.before
  rw [← Array.foldl_toList]
  rfl

theorem before_row {ops : Array Oper} {j : Nat} {o : Oper} (ho : ops[j]? = some o) : ∃ acc' : Array Nat, (Region.before ops).getD j 0 = o.after.toList.foldl (fun s e => if Region.binds .any e then s ||| 2 ^ e.on ||| acc'.getD e.on 0 else s) 0 ∧
    ∀ k, acc'.getD k 0 = if k < j then (Region.before ops).getD k 0 else 0 := by
  obtain ⟨h1, h2, h3⟩ := before_list ops.toList #[]
  obtain ⟨acc', h4, h5, h6⟩ := h3 j o (by simpa using ho)
  rw [← before_eq] at h4 h6
  simp only [List.size_toArray, List.length_nil, Nat.zero_add] at h4 h5 h6
  refine ⟨acc', ?_, fun k => ?_⟩
  · rw [Array.getD_eq_getD_getElem?, h4]
    simp only [Option.getD_some, rowB]
    rw [← Array.foldl_toList]
  · split
    · rename_i hk
      rw [Array.getD_eq_getD_getElem?, Array.getD_eq_getD_getElem?, h6 k (by omega)]
    · rename_i hk
      rw [Array.getD_eq_getD_getElem?, Array.getElem?_eq_none (by omega)]; rfl

/-- What is before j: an edge's own, or what is before that. -/
theorem before_bit {ops : Array Oper} {j i : Nat} (h : ((Region.before ops).getD j 0).testBit i = true) :
    ∃ o, ops[j]? = some o ∧ ∃ e ∈ o.after, Region.binds .any e = true ∧ (e.on = i ∨ (e.on < j ∧ ((Region.before ops).getD e.on 0).testBit i = true)) := by
  cases ho : ops[j]? with
  | none =>
    obtain ⟨h1, _, _⟩ := before_list ops.toList #[]
    rw [← before_eq] at h1
    have : ops.size ≤ j := by simpa using ho
    rw [Array.getD_eq_getD_getElem?, Array.getElem?_eq_none (by simp at h1; omega)] at h
    simp at h
  | some o =>
    obtain ⟨acc', h1, h2⟩ := before_row ho
    rw [h1] at h
    rcases rowB_bit _ _ _ h with h | ⟨e, he, hb, h⟩
    · simp at h
    · refine ⟨o, rfl, e, by simpa using he, hb, h.imp id fun h => ?_⟩
      rw [h2] at h
      split at h
      · rename_i hlt; exact ⟨hlt, h⟩
      · simp at h

theorem before_edge {ops : Array Oper} {j : Nat} {o : Oper} {e : Edge} (ho : ops[j]? = some o) (he : e ∈ o.after) (hb : Region.binds .any e = true) : ((Region.before ops).getD j 0).testBit e.on = true := by
  obtain ⟨acc', h1, _⟩ := before_row ho
  rw [h1]; exact rowB_edge _ _ e (by simpa using he) hb

/-! ### The shadow's order -/
theorem pickOne_some {p : Nat → Bool} : ∀ {l : List Nat} {i : Nat} {r : List Nat}, pickOne p l = some (i, r) → p i = true ∧ ∃ a b, l = a ++ i :: b ∧ r = a ++ b
  | [], i, r, h => by simp [pickOne] at h
  | x :: l, i, r, h => by
    unfold pickOne at h
    split at h
    · rename_i hp
      cases h
      exact ⟨hp, [], l, rfl, rfl⟩
    · split at h
      · rename_i j q hq
        cases h
        obtain ⟨h1, a, b, h2, h3⟩ := pickOne_some hq
        exact ⟨h1, x :: a, b, by simp [h2], by simp [h3]⟩
      · cases h

theorem readyFor_bit {bf : Array Nat} {done j : Nat} (h : readyFor bf done j = true) {i : Nat} (hi : (bf.getD j 0).testBit i = true) : done.testBit i = true := by
  unfold readyFor at h
  have h := Nat.eq_of_beq_eq_true h
  have h2 : (Nat.land (bf.getD j 0) done).testBit i = true := by rw [h]; exact hi
  have h3 : ((bf.getD j 0) &&& done).testBit i = true := h2
  rw [Nat.testBit_and] at h3
  simp at h3; exact h3.2

theorem orderF_ok {ops : Array Oper} {bf : Array Nat} : ∀ (f done : Nat) (left : List Nat), left.Nodup → (orderF ops bf f done left).Nodup ∧ (∀ x ∈ orderF ops bf f done left, x ∈ left) ∧
    ∀ a j b, orderF ops bf f done left = a ++ j :: b → ∀ i, (bf.getD j 0).testBit i = true → done.testBit i = true ∨ i ∈ a
  | 0, done, left, _ => by simp [orderF]
  | f + 1, done, left, hn => by
    have main : ∀ i r, (∃ a b, left = a ++ i :: b ∧ r = a ++ b) → readyFor bf done i = true →
        (i :: orderF ops bf f (Nat.lor done (Nat.shiftLeft 1 i)) r).Nodup ∧ (∀ x ∈ i :: orderF ops bf f (Nat.lor done (Nat.shiftLeft 1 i)) r, x ∈ left) ∧
        ∀ a j b, i :: orderF ops bf f (Nat.lor done (Nat.shiftLeft 1 i)) r = a ++ j :: b → ∀ k, (bf.getD j 0).testBit k = true → done.testBit k = true ∨ k ∈ a := by
      rintro i r ⟨a, b, rfl, rfl⟩ hr
      have hn' : (a ++ b).Nodup := by
        refine hn.sublist ?_
        exact List.Sublist.append_left (List.sublist_cons_self _ _) a
      have hni : i ∉ a ++ b := by
        have := List.nodup_append.1 hn
        simp only [List.mem_append]
        rintro (h | h)
        · exact this.2.2 i h i (by simp) rfl
        · exact (List.nodup_cons.1 this.2.1).1 h
      obtain ⟨h1, h2, h3⟩ := orderF_ok (ops := ops) (bf := bf) f (Nat.lor done (Nat.shiftLeft 1 i)) (a ++ b) hn'
      refine ⟨List.nodup_cons.2 ⟨fun h => hni (h2 i h), h1⟩, ?_, ?_⟩
      · intro x hx
        rcases List.mem_cons.1 hx with rfl | hx
        · simp
        · have := h2 x hx
          simp only [List.mem_append, List.mem_cons] at this ⊢
          rcases this with h | h
          · exact .inl h
          · exact .inr (.inr h)
      · intro a' j b' e k hk
        cases a' with
        | nil =>
          simp at e
          obtain ⟨rfl, _⟩ := e
          exact .inl (readyFor_bit hr hk)
        | cons x a' =>
          simp at e
          obtain ⟨rfl, e⟩ := e
          rcases h3 a' j b' e k hk with h | h
          · have h : (done ||| (1 <<< i)).testBit k = true := h
            rw [Nat.testBit_or, Nat.one_shiftLeft, Nat.testBit_two_pow] at h
            simp only [Bool.or_eq_true, decide_eq_true_eq] at h
            rcases h with h | h
            · exact .inl h
            · exact .inr (by simp [h])
          · exact .inr (by simp [h])
    unfold orderF
    split
    · rename_i i l hp
      obtain ⟨h1, h2⟩ := pickOne_some hp
      refine main i l h2 ?_
      split at h1
      · cases h1
      · exact h1
    · split
      · rename_i i l hp
        obtain ⟨h1, h2⟩ := pickOne_some hp
        exact main i l h2 h1
      · simp

structure Lin (ops : Array Oper) (l : List Nat) : Prop where
  nodup : l.Nodup
  mem : ∀ x, x ∈ l ↔ x < ops.size
  ord : ∀ a j b, l = a ++ j :: b → ∀ i, ((Region.before ops).getD j 0).testBit i = true → i ∈ a

theorem order_lin {ops : Array Oper} (h : (order ops).length = ops.size) : Lin ops (order ops) := by
  obtain ⟨h1, h2, h3⟩ := orderF_ok (ops := ops) (bf := Region.before ops) ops.size 0 (List.range ops.size) List.nodup_range
  refine ⟨h1, fun x => ⟨fun hx => by simpa using h2 x hx, fun hx => ?_⟩, fun a j b e i hi => ?_⟩
  · exact pigeon (order ops) (List.range ops.size) h1 h2 (by rw [h]; simp) x (by simpa using hx)
  · rcases h3 a j b e i hi with h | h
    · simp at h
    · exact h

/-! ### The machine's order -/
theorem lin_go {ops : Array Oper} : ∀ (f t : Nat) (listed : Array Bool), listed.size = ops.size →
    (Region.linearise.go .any ops f t listed []).Nodup ∧ (∀ x ∈ Region.linearise.go .any ops f t listed [], x < ops.size ∧ listed.getD x true = false) ∧
    (∀ a j b, Region.linearise.go .any ops f t listed [] = a ++ j :: b → ∀ o, ops[j]? = some o → ∀ e ∈ o.after, Region.binds .any e = true → e.on ∈ a ∨ listed.getD e.on false = true) ∧
    ((Region.linearise.go .any ops f t listed []).length = f ∨ ∃ listed' : Array Bool, listed'.size = ops.size ∧ Region.ready .any ops listed' = [] ∧
      ∀ x, listed'.getD x true = false ↔ (listed.getD x true = false ∧ x ∉ Region.linearise.go .any ops f t listed []))
  | 0, t, listed, hl => by simp [Region.linearise.go]
  | f + 1, t, listed, hl => by
    have e : Region.linearise.go .any ops (f + 1) t listed [] = match (Region.ready .any ops listed)[t % (Region.ready .any ops listed).length]? with
      | some i => i :: Region.linearise.go .any ops f (t / (Region.ready .any ops listed).length) (listed.setIfInBounds i true) []
      | none => [] := by
      rw [show Region.linearise.go .any ops (f + 1) t listed [] = (match (Region.ready .any ops listed)[t % (Region.ready .any ops listed).length]? with
        | some i => Region.linearise.go .any ops f (t / (Region.ready .any ops listed).length) (listed.setIfInBounds i true) [i]
        | none => [].reverse) from rfl]
      cases (Region.ready .any ops listed)[t % (Region.ready .any ops listed).length]? with
      | none => rfl
      | some i => simp only []; rw [linearise_go_acc]; rfl
    rw [e]
    cases hi : (Region.ready .any ops listed)[t % (Region.ready .any ops listed).length]? with
    | none =>
      refine ⟨by simp, by simp, by simp, .inr ⟨listed, hl, ?_, by simp⟩⟩
      cases hr : Region.ready .any ops listed with
      | nil => rfl
      | cons x xs =>
        rw [hr] at hi
        have hlt : t % (x :: xs).length < (x :: xs).length := Nat.mod_lt _ (by simp)
        simp at hi
        simp at hlt
        omega
    | some i =>
      simp only
      have hmem := mem_ready.1 (List.mem_of_getElem? hi)
      obtain ⟨hun, o, ho, hall⟩ := hmem
      have hlt : i < ops.size := (Array.getElem?_eq_some_iff.1 ho).1
      obtain ⟨h1, h2, h3, h4⟩ := lin_go f (t / (Region.ready .any ops listed).length) (listed.setIfInBounds i true) (by simpa using hl)
      have hset : ∀ x, (listed.setIfInBounds i true).getD x true = false ↔ (listed.getD x true = false ∧ x ≠ i) := by
        intro x
        by_cases hx : i = x
        · subst hx
          simp [Array.getD, hl, hlt]
        · rw [getD_set_ne true hx]
          exact ⟨fun h => ⟨h, fun e => hx e.symm⟩, fun h => h.1⟩
      refine ⟨List.nodup_cons.2 ⟨fun h => ((hset i).1 (h2 i h).2).2 rfl, h1⟩, ?_, ?_, ?_⟩
      · intro x hx
        rcases List.mem_cons.1 hx with rfl | hx
        · exact ⟨hlt, hun⟩
        · exact ⟨(h2 x hx).1, ((hset x).1 (h2 x hx).2).1⟩
      · intro a j b e o' ho' ed hed hb
        cases a with
        | nil =>
          simp at e
          obtain ⟨rfl, _⟩ := e
          rw [ho] at ho'; cases ho'
          exact .inr (hall ed hed hb)
        | cons y a =>
          simp at e
          obtain ⟨rfl, e⟩ := e
          rcases h3 a j b e o' ho' ed hed hb with h | h
          · exact .inl (by simp [h])
          · by_cases hx : i = ed.on
            · exact .inl (by simp [hx])
            · rw [getD_set_ne false hx] at h; exact .inr h
      · rcases h4 with h4 | ⟨l', q1, q2, q3⟩
        · exact .inl (by simp [h4])
        · refine .inr ⟨l', q1, q2, fun x => ?_⟩
          rw [q3, hset]
          simp only [List.mem_cons, not_or]
          constructor
          · rintro ⟨⟨a, b⟩, c⟩; exact ⟨a, b, c⟩
          · rintro ⟨a, b, c⟩; exact ⟨⟨a, b⟩, c⟩

/-- Where there is an order at all, every drawn one is whole. -/
theorem linearise_lin {ops : Array Oper} {π : List Nat} (hπ : Lin ops π) (t : Nat) : Lin ops (Region.linearise .any ops t) := by
  have hs : (Array.replicate ops.size false).size = ops.size := by simp
  obtain ⟨h1, h2, h3, h4⟩ := lin_go (ops := ops) ops.size t (Array.replicate ops.size false) hs
  have hun : ∀ x, (Array.replicate ops.size false).getD x true = false ↔ x < ops.size := by
    intro x
    by_cases hx : x < ops.size <;> simp [Array.getD, hx]
  have hno : ∀ x, (Array.replicate ops.size false).getD x false = false := by
    intro x
    by_cases hx : x < ops.size <;> simp [Array.getD, hx]
  have e : Region.linearise .any ops t = Region.linearise.go .any ops ops.size t (Array.replicate ops.size false) [] := rfl
  rw [← e] at h1 h2 h3 h4
  have hmem : ∀ x, x < ops.size → x ∈ Region.linearise .any ops t := by
    rcases h4 with h4 | ⟨l', q1, q2, q3⟩
    · intro x hx
      exact pigeon _ (List.range ops.size) h1 (fun y hy => by simpa using (h2 y hy).1) (by rw [h4]; simp) x (by simpa using hx)
    · -- the first of the order that is not listed could come up
      intro x hx
      have claim : ∀ (a b : List Nat), π = a ++ b → (∀ y ∈ a, l'.getD y true = true) → ∀ y ∈ b, l'.getD y true = true := by
        intro a b
        induction b generalizing a with
        | nil => intro _ _ y hy; cases hy
        | cons z b ih =>
          intro hab ha
          have hz : l'.getD z true = true := by
            cases hz : l'.getD z true with
            | true => rfl
            | false =>
              exfalso
              have hzlt : z < ops.size := (hπ.mem z).1 (by rw [hab]; simp)
              have hz' : z ∈ Region.ready .any ops l' := by
                refine mem_ready.2 ⟨hz, ops[z], Array.getElem?_eq_getElem hzlt, fun ed hed hb => ?_⟩
                have hin := hπ.ord a z b hab ed.on (before_edge (Array.getElem?_eq_getElem hzlt) hed hb)
                have h5 := ha ed.on hin
                have h6 : ed.on < l'.size := by rw [q1]; exact (hπ.mem _).1 (by rw [hab]; simp [hin])
                simp only [Array.getD, h6, dif_pos] at h5 ⊢
                exact h5
              rw [q2] at hz'; cases hz'
          intro y hy
          rcases List.mem_cons.1 hy with rfl | hy
          · exact hz
          · exact ih (a ++ [z]) (by simp [hab]) (fun y hy => by
              rcases List.mem_append.1 hy with h | h
              · exact ha y h
              · simp at h; subst h; exact hz) y hy
      have hx' := claim [] π rfl (by simp) x ((hπ.mem x).2 hx)
      refine Classical.byContradiction fun hc => ?_
      have := (q3 x).2 ⟨(hun x).2 hx, hc⟩
      rw [hx'] at this; cases this
  refine ⟨h1, fun x => ⟨fun hx => (h2 x hx).1, hmem x⟩, ?_⟩
  have key : ∀ j, ∀ a b, Region.linearise .any ops t = a ++ j :: b → ∀ i, ((Region.before ops).getD j 0).testBit i = true → i ∈ a := by
    intro j
    induction j using Nat.strongRecOn with
    | _ j ih =>
      intro a b hab i hi
      obtain ⟨o, ho, ed, hed, hb, hor⟩ := before_bit hi
      have hin : ed.on ∈ a := by
        rcases h3 a j b hab o ho ed hed hb with h | h
        · exact h
        · rw [hno] at h; cases h
      rcases hor with rfl | ⟨hlt, hbit⟩
      · exact hin
      · obtain ⟨c, d, rfl⟩ := List.append_of_mem hin
        have := ih ed.on hlt c (d ++ j :: b) (by rw [hab]; simp) i hbit
        simp [this]
  exact fun a j b => key j a b

/-- Nobody stands ahead of one that is before it. -/
theorem Lin.pairwise {ops : Array Oper} {l : List Nat} (h : Lin ops l) : l.Pairwise (fun j i => ((Region.before ops).getD j 0).testBit i = false) := by
  refine pairwise_of_split [] l fun a j b e _ i hi => ?_
  simp only [List.nil_append] at e
  cases hb : ((Region.before ops).getD j 0).testBit i with
  | false => rfl
  | true =>
    exfalso
    have h1 := h.ord a j b e i hb
    have hn := h.nodup
    rw [e] at hn
    exact (List.nodup_append.1 hn).2.2 i h1 i (by simp [hi]) rfl

theorem schedule_lin {ops : Array Oper} (h : (order ops).length = ops.size) (t : Nat) : Lin ops (Region.schedule true ops t) := by
  have : Region.schedule true ops t = Region.linearise .any ops t := by simp [Region.schedule]
  rw [this]
  exact linearise_lin (order_lin h) t
end Go.Shd
/- A state of which some blocks are not made yet; locks. -/
namespace Go.Shd
noncomputable section
variable {G : Globals} {N : Nat}

/-- What is there of a state, against a world. -/
structure RelV (G : Globals) (N : Nat) (hv : Nat → Option Blk) (μ : Mu) (w : World) : Prop where
  blk : ∀ id b, hv id = some b → b.open = true → ∃ r, μ.b id = some r ∧ N ≤ r ∧ r < w.heap.size ∧ BR μ id b w.heap[r]?
  sep : ∀ id1 id2 b1 b2 r, id1 ≠ id2 → hv id1 = some b1 → b1.open = true → hv id2 = some b2 → b2.open = true →
    μ.b id1 = some r → μ.b id2 = some r → ∃ g, b1.grp? = some g ∧ b2.grp? = some g
  glob : GlobOk G N w
  base : N ≤ w.heap.size

def FreeV (hv : Nat → Option Blk) (μ : Mu) (r : Nat) : Prop := ∀ id b, hv id = some b → b.open = true → μ.b id ≠ some r

def view (st : St) (id : Nat) : Option Blk := st.heap.get (key id)

theorem RelV.of_rel {μ : Mu} {st : St} {w : World} (h : Rel G N μ st w) : RelV G N (view st) μ w :=
  ⟨h.blk, h.sep, h.glob, h.base⟩

/-- What is seen of it all. -/
theorem RelV.rel {hv : Nat → Option Blk} {μ : Mu} {st' : St} {w : World} (h : RelV G N hv μ w)
    (hX : ∀ id b, st'.heap.get (key id) = some b → b.open = true → hv id = some b) : Rel G N μ st' w where
  blk := fun id b hb ho => h.blk id b (hX id b hb ho) ho
  sep := fun id1 id2 b1 b2 r hne hb1 ho1 hb2 ho2 => h.sep id1 id2 b1 b2 r hne (hX id1 b1 hb1 ho1) ho1 (hX id2 b2 hb2 ho2) ho2
  glob := h.glob
  base := h.base

theorem RelV.sub {hv hv' : Nat → Option Blk} {μ : Mu} {w : World} (h : RelV G N hv μ w)
    (hX : ∀ id b, hv' id = some b → b.open = true → hv id = some b) : RelV G N hv' μ w where
  blk := fun id b hb ho => h.blk id b (hX id b hb ho) ho
  sep := fun id1 id2 b1 b2 r hne hb1 ho1 hb2 ho2 => h.sep id1 id2 b1 b2 r hne (hX id1 b1 hb1 ho1) ho1 (hX id2 b2 hb2 ho2) ho2
  glob := h.glob
  base := h.base

/-! ### Locks -/
def Lock (h h' : T Blk) (L : Nat → Prop) : Prop := ∀ id, (L id → h'.get (key id) = some .locked) ∧ (¬ L id → h'.get (key id) = h.get (key id))

/-- A block that may be locked: a map, or cells that share with nobody. -/
def Plain (g : T (Nat × List Nat)) (b : Blk) : Prop := (∃ cs e fz grp cap, b = .cells cs e fz grp cap ∧ g.get (key grp) = none) ∨ ∃ es clock, b = .map es clock

theorem Plain.open {g : T (Nat × List Nat)} {b : Blk} (h : Plain g b) : b.open = true := by
  rcases h with ⟨cs, e, fz, grp, cap, rfl, _⟩ | ⟨es, clock, rfl⟩ <;> rfl

theorem hasId_true {id : Nat} : ∀ {l : List (Nat × Blk)}, hasId id l = true → ∃ b, (id, b) ∈ l
  | [], h => by simp [hasId] at h
  | (j, b) :: l, h => by
    simp only [hasId] at h
    split at h
    · rename_i hb; exact ⟨b, by rw [Nat.eq_of_beq_eq_true hb]; simp⟩
    · obtain ⟨b', hb'⟩ := hasId_true h; exact ⟨b', by simp [hb']⟩

theorem hasEv_true {id : Nat} : ∀ {l : List (Nat × Nat)}, hasEv id l = true → ∃ j, (j, id) ∈ l
  | [], h => by simp [hasEv] at h
  | (j, b) :: l, h => by
    simp only [hasEv] at h
    split at h
    · rename_i hb; exact ⟨j, by rw [← Nat.eq_of_beq_eq_true hb]; simp⟩
    · obtain ⟨b', hb'⟩ := hasEv_true h; exact ⟨b', by simp [hb']⟩

theorem lockAll_acc {g : T (Nat × List Nat)} {bj : Nat} : ∀ {l : List (Nat × Nat)} {h : T Blk} {acc : List (Nat × Blk)} {K : T Blk → List (Nat × Blk) → Bool}, lockAll g bj l h acc K = true →
    (∀ p ∈ acc, h.get (key p.1) = some .locked) →
    ∃ (h' : T Blk) (S : List (Nat × Blk)), K h' (S.reverse ++ acc) = true ∧ (∀ id, ((∃ b, (id, b) ∈ S) ∨ ∃ b, (id, b) ∈ acc) ↔ ((∃ i, (i, id) ∈ l ∧ bj.testBit i = false) ∨ ∃ b, (id, b) ∈ acc)) ∧ (S.map (·.1)).Nodup ∧
      Lock h h' (fun id => ∃ b, (id, b) ∈ S) ∧ ∀ p ∈ S, h.get (key p.1) = some p.2 ∧ Plain g p.2
  | [], h, acc, K, hk, _ => ⟨h, [], by simpa [lockAll] using hk, by simp, by simp, fun id => ⟨by simp, fun _ => rfl⟩, by simp⟩
  | (i, id) :: l, h, acc, K, hk, hacc => by
    simp only [lockAll] at hk
    split at hk
    · rename_i hb
      obtain ⟨h', S, h1, h2, h3, h4, h5⟩ := lockAll_acc hk hacc
      refine ⟨h', S, h1, fun id' => ?_, h3, h4, h5⟩
      rw [h2]
      constructor
      · rintro (⟨j, hj, hjb⟩ | h)
        · exact .inl ⟨j, by simp [hj], hjb⟩
        · exact .inr h
      · rintro (⟨j, hj, hjb⟩ | h)
        · rcases List.mem_cons.1 hj with e | hj
          · cases e; rw [hb] at hjb; cases hjb
          · exact .inl ⟨j, hj, hjb⟩
        · exact .inr h
    · rename_i hb
      have main : ∀ b, h.get (key id) = some b → Plain g b → T.setK (some .locked) (key id) h (fun h => lockAll g bj l h ((id, b) :: acc) K) = true →
          ∃ (h' : T Blk) (S : List (Nat × Blk)), K h' (S.reverse ++ acc) = true ∧ (∀ id', ((∃ b, (id', b) ∈ S) ∨ ∃ b, (id', b) ∈ acc) ↔ ((∃ i', (i', id') ∈ (i, id) :: l ∧ bj.testBit i' = false) ∨ ∃ b, (id', b) ∈ acc)) ∧ (S.map (·.1)).Nodup ∧
            Lock h h' (fun id => ∃ b, (id, b) ∈ S) ∧ ∀ p ∈ S, h.get (key p.1) = some p.2 ∧ Plain g p.2 := by
        intro b hget hpl hk
        rw [T.setK_eq] at hk
        obtain ⟨h', S, h1, h2, h3, h4, h5⟩ := lockAll_acc hk (by
          intro p hp
          rw [T.get_set]
          split
          · rfl
          · rename_i hne
            rcases List.mem_cons.1 hp with rfl | hp
            · exact absurd rfl hne
            · exact hacc p hp)
        have hne : ∀ p ∈ S, p.1 ≠ id := by
          intro p hp e
          obtain ⟨h6, h7⟩ := h5 p hp
          rw [e, T.get_set] at h6
          simp at h6
          have := h7.open
          rw [← h6] at this; cases this
        refine ⟨h', (id, b) :: S, by simpa using h1, fun id' => ?_, ?_, fun id' => ⟨?_, ?_⟩, ?_⟩
        · have h2' := h2 id'
          constructor
          · rintro (⟨b', hb'⟩ | ⟨b', hb'⟩)
            · rcases List.mem_cons.1 hb' with e | hb'
              · cases e; exact .inl ⟨i, by simp, hb⟩
              · rcases h2'.1 (.inl ⟨b', hb'⟩) with ⟨j, hj, hjb⟩ | ⟨b2, hb2⟩
                · exact .inl ⟨j, by simp [hj], hjb⟩
                · rcases List.mem_cons.1 hb2 with e | hb2
                  · cases e; exact .inl ⟨i, by simp, hb⟩
                  · exact .inr ⟨b2, hb2⟩
            · exact .inr ⟨b', hb'⟩
          · rintro (⟨j, hj, hjb⟩ | ⟨b', hb'⟩)
            · rcases List.mem_cons.1 hj with e | hj
              · cases e; exact .inl ⟨b, by simp⟩
              · rcases h2'.2 (.inl ⟨j, hj, hjb⟩) with ⟨b', hb'⟩ | ⟨b2, hb2⟩
                · exact .inl ⟨b', by simp [hb']⟩
                · rcases List.mem_cons.1 hb2 with e | hb2
                  · cases e; exact .inl ⟨b, by simp⟩
                  · exact .inr ⟨b2, hb2⟩
            · exact .inr ⟨b', hb'⟩
        · simp only [List.map_cons, List.nodup_cons, List.mem_map, not_exists, not_and]
          exact ⟨fun p hp => hne p hp, h3⟩
        · rintro ⟨b', hb'⟩
          by_cases hin : ∃ b, (id', b) ∈ S
          · exact (h4 id').1 hin
          · rcases List.mem_cons.1 hb' with e | hb'
            · cases e
              rw [(h4 id).2 hin, T.get_set]; simp
            · exact absurd ⟨b', hb'⟩ hin
        · intro hn
          have hn1 : ¬ ∃ b, (id', b) ∈ S := fun ⟨b', hb'⟩ => hn ⟨b', by simp [hb']⟩
          have hn2 : id' ≠ id := by rintro rfl; exact hn ⟨b, by simp⟩
          rw [(h4 id').2 hn1, T.get_set]; simp [hn2]
        · intro p hp
          rcases List.mem_cons.1 hp with rfl | hp
          · exact ⟨hget, hpl⟩
          · obtain ⟨h6, h7⟩ := h5 p hp
            rw [T.get_set] at h6
            simp [hne p hp] at h6
            exact ⟨h6, h7⟩
      split at hk
      · rename_i cs e fz grp cap hget
        split at hk
        · rename_i hg
          exact main _ hget (.inl ⟨_, _, _, _, _, rfl, hg⟩) hk
        · cases hk
      · rename_i es clock hget
        exact main _ hget (.inr ⟨_, _, rfl⟩) hk
      · rename_i hget
        split at hk
        case h_2 => cases hk
        rename_i hid
        obtain ⟨b0, hb0⟩ := hasId_true hid
        obtain ⟨h', S, h1, h2, h3, h4, h5⟩ := lockAll_acc hk hacc
        refine ⟨h', S, h1, fun id' => ?_, h3, h4, h5⟩
        rw [h2]
        constructor
        · rintro (⟨j, hj, hjb⟩ | h)
          · exact .inl ⟨j, by simp [hj], hjb⟩
          · exact .inr h
        · rintro (⟨j, hj, hjb⟩ | h)
          · rcases List.mem_cons.1 hj with e | hj
            · cases e; exact .inr ⟨b0, hb0⟩
            · exact .inl ⟨j, hj, hjb⟩
          · exact .inr h
      · cases hk

theorem lockAll_true {g : T (Nat × List Nat)} {bj : Nat} {l : List (Nat × Nat)} {h : T Blk} {K : T Blk → List (Nat × Blk) → Bool} (hk : lockAll g bj l h [] K = true) :
    ∃ (h' : T Blk) (S : List (Nat × Blk)), K h' (S.reverse ++ []) = true ∧ (∀ id, (∃ b, (id, b) ∈ S) ↔ ∃ i, (i, id) ∈ l ∧ bj.testBit i = false) ∧ (S.map (·.1)).Nodup ∧
      Lock h h' (fun id => ∃ b, (id, b) ∈ S) ∧ ∀ p ∈ S, h.get (key p.1) = some p.2 ∧ Plain g p.2 := by
  obtain ⟨h', S, h1, h2, h3⟩ := lockAll_acc hk (by simp)
  exact ⟨h', S, h1, fun id => by simpa using h2 id, h3⟩

theorem unlockAll_true : ∀ {S : List (Nat × Blk)} {h : T Blk} {n : Nat} {K : T Blk → Nat → Bool}, unlockAll S h n K = true → (S.map (·.1)).Nodup → (∀ p ∈ S, ∃ g, Plain g p.2) →
    ∃ (h' : T Blk) (n' : Nat) (q : Nat → Nat), K h' n' = true ∧ n ≤ n' ∧ (∀ id, (¬ ∃ b, (id, b) ∈ S) → h'.get (key id) = h.get (key id)) ∧
      (∀ p ∈ S, h.get (key p.1) = some .locked ∧ h'.get (key p.1) = some (p.2.regroup (q p.1))) ∧
      (∀ p ∈ S, p.2.grp? ≠ none → n ≤ q p.1 ∧ q p.1 < n') ∧ ∀ p ∈ S, ∀ p' ∈ S, p.2.grp? ≠ none → p'.2.grp? ≠ none → q p.1 = q p'.1 → p.1 = p'.1
  | [], h, n, K, hk, _, _ => ⟨h, n, fun _ => 0, by simpa [unlockAll] using hk, Nat.le_refl _, fun _ _ => rfl, by simp, by simp, by simp⟩
  | (id, b) :: S, h, n, K, hk, hnd, hpl => by
    simp only [List.map_cons, List.nodup_cons] at hnd
    have hid : ∀ p ∈ S, p.1 ≠ id := fun p hp e => hnd.1 (by rw [← e]; exact List.mem_map_of_mem hp)
    simp only [unlockAll] at hk
    split at hk
    case h_2 => cases hk
    rename_i hlk
    split at hk
    · rename_i cs e fz grp cap
      rw [T.setK_eq, natK_eq] at hk
      obtain ⟨h', n', q, h1, h2, h3, h4, h5, h6⟩ := unlockAll_true hk hnd.2 (fun p hp => hpl p (by simp [hp]))
      have hnot : ¬ ∃ b, (id, b) ∈ S := fun ⟨b', hb'⟩ => hid _ hb' rfl
      have hq : ∀ p ∈ S, (if p.1 = id then n else q p.1) = q p.1 := fun p hp => by simp [hid p hp]
      refine ⟨h', n', fun i => if i = id then n else q i, h1, by omega, fun id' hn => ?_, fun p hp => ?_, fun p hp hg => ?_, fun p hp p' hp' hg hg' e => ?_⟩
      · have hn1 : ¬ ∃ b, (id', b) ∈ S := fun ⟨b', hb'⟩ => hn ⟨b', by simp [hb']⟩
        have hn2 : id' ≠ id := by rintro rfl; exact hn ⟨_, List.mem_cons_self⟩
        rw [h3 id' hn1, T.get_set]; simp [hn2]
      · rcases List.mem_cons.1 hp with rfl | hp
        · refine ⟨hlk, ?_⟩
          simp only [if_true]
          rw [h3 id hnot, T.get_set]; simp [Blk.regroup]
        · obtain ⟨h7, h8⟩ := h4 p hp
          rw [T.get_set] at h7
          simp [hid p hp] at h7
          simp only [hid p hp, if_false]
          exact ⟨h7, h8⟩
      · rcases List.mem_cons.1 hp with rfl | hp
        · simp only [if_true]; omega
        · have := h5 p hp hg
          simp only [hid p hp, if_false]; omega
      · rcases List.mem_cons.1 hp with rfl | hp <;> rcases List.mem_cons.1 hp' with rfl | hp'
        · rfl
        · have := h5 p' hp' hg'
          simp only [if_true, hid p' hp', if_false] at e; omega
        · have := h5 p hp hg
          simp only [if_true, hid p hp, if_false] at e; omega
        · simp only [hid p hp, hid p' hp', if_false] at e
          exact h6 p hp p' hp' hg hg' e
    · rename_i es clock
      rw [T.setK_eq] at hk
      obtain ⟨h', n', q, h1, h2, h3, h4, h5, h6⟩ := unlockAll_true hk hnd.2 (fun p hp => hpl p (by simp [hp]))
      have hnot : ¬ ∃ b, (id, b) ∈ S := fun ⟨b', hb'⟩ => hid _ hb' rfl
      refine ⟨h', n', q, h1, h2, fun id' hn => ?_, fun p hp => ?_, fun p hp hg => ?_, fun p hp p' hp' hg hg' e => ?_⟩
      · have hn1 : ¬ ∃ b, (id', b) ∈ S := fun ⟨b', hb'⟩ => hn ⟨b', by simp [hb']⟩
        have hn2 : id' ≠ id := by rintro rfl; exact hn ⟨_, List.mem_cons_self⟩
        rw [h3 id' hn1, T.get_set]; simp [hn2]
      · rcases List.mem_cons.1 hp with rfl | hp
        · refine ⟨hlk, ?_⟩
          rw [h3 id hnot, T.get_set]; simp [Blk.regroup]
        · obtain ⟨h7, h8⟩ := h4 p hp
          rw [T.get_set] at h7
          simp [hid p hp] at h7
          exact ⟨h7, h8⟩
      · rcases List.mem_cons.1 hp with rfl | hp
        · exact absurd rfl hg
        · exact h5 p hp hg
      · rcases List.mem_cons.1 hp with rfl | hp
        · exact absurd rfl hg
        · rcases List.mem_cons.1 hp' with rfl | hp'
          · exact absurd rfl hg'
          · exact h6 p hp p' hp' hg hg' e
    · cases hk

theorem Wf.lock {st : St} (hw : Wf st) {h' : T Blk} {L : Nat → Prop} (hl : Lock st.heap h' L) (hin : ∀ id, L id → ∃ b, st.heap.get (key id) = some b) : Wf ⟨h', st.grps, st.next⟩ := by
  have hsub : ∀ id b, h'.get (key id) = some b → b = .locked ∨ st.heap.get (key id) = some b := by
    intro id b hb
    by_cases hL : L id
    · rw [(hl id).1 hL] at hb; cases hb; exact .inl rfl
    · rw [(hl id).2 hL] at hb; exact .inr hb
  refine ⟨fun id b hb => ?_, fun id b g hb hg => ?_, fun id cs e fz g cap hb => ?_, hw.gnone⟩
  · by_cases hL : L id
    · obtain ⟨b', hb'⟩ := hin id hL; exact hw.lt id b' hb'
    · exact hw.lt id b (by rw [← (hl id).2 hL]; exact hb)
  · rcases hsub id b hb with rfl | hb
    · cases hg
    · exact hw.glt id b g hb hg
  · rcases hsub id _ hb with hc | hb
    · cases hc
    · have := hw.grp id cs e fz g cap hb
      simp only
      split
      · rename_i hg
        rw [hg] at this
        intro id2 b2 hb2 hg2
        rcases hsub id2 b2 hb2 with rfl | hb2
        · cases hg2
        · exact this id2 b2 hb2 hg2
      · rename_i mx ms hg
        rw [hg] at this
        exact this

theorem Blk.regroup_grp {b : Blk} {q g : Nat} (h : (b.regroup q).grp? = some g) : g = q ∧ b.grp? ≠ none := by
  cases b <;> simp_all [Blk.regroup, Blk.grp?]
theorem Blk.regroup_open {b : Blk} {q : Nat} : (b.regroup q).open = b.open := by cases b <;> rfl
theorem BR.regroup {μ : Mu} {id : Nat} {b : Blk} {o : Option Obj} {q : Nat} (h : BR μ id b o) : BR μ id (b.regroup q) o := by
  cases b <;> exact h
theorem BR.regroup' {μ : Mu} {id : Nat} {b : Blk} {o : Option Obj} {q : Nat} (h : BR μ id (b.regroup q) o) : BR μ id b o := by
  cases b <;> exact h

/-- A state whose locks are opened again. -/
structure Unlk (S : List (Nat × Blk)) (st st' : St) (q : Nat → Nat) : Prop where
  le : st.next ≤ st'.next
  grps : st'.grps = st.grps
  other : ∀ id, (¬ ∃ b, (id, b) ∈ S) → st'.heap.get (key id) = st.heap.get (key id)
  same : ∀ p ∈ S, st.heap.get (key p.1) = some .locked ∧ st'.heap.get (key p.1) = some (p.2.regroup (q p.1))
  rng : ∀ p ∈ S, p.2.grp? ≠ none → st.next ≤ q p.1 ∧ q p.1 < st'.next
  inj : ∀ p ∈ S, ∀ p' ∈ S, p.2.grp? ≠ none → p'.2.grp? ≠ none → q p.1 = q p'.1 → p.1 = p'.1

theorem Unlk.wf {S : List (Nat × Blk)} {st st' : St} {q : Nat → Nat} (h : Unlk S st st' q) (hw : Wf st) : Wf st' := by
  have hcase : ∀ id b, st'.heap.get (key id) = some b → (∃ p ∈ S, p.1 = id ∧ b = p.2.regroup (q id)) ∨ ((¬ ∃ b, (id, b) ∈ S) ∧ st.heap.get (key id) = some b) := by
    intro id b hb
    by_cases hin : ∃ b, (id, b) ∈ S
    · obtain ⟨b', hb'⟩ := hin
      have := (h.same _ hb').2
      simp only at this
      rw [this] at hb; cases hb
      exact .inl ⟨_, hb', rfl, rfl⟩
    · exact .inr ⟨hin, by rw [← h.other id hin]; exact hb⟩
  refine ⟨fun id b hb => ?_, fun id b g hb hg => ?_, fun id cs e fz g cap hb => ?_, fun g hg => by rw [h.grps]; exact hw.gnone g (Nat.le_trans h.le hg)⟩
  · rcases hcase id b hb with ⟨p, hp, rfl, _⟩ | ⟨_, hb⟩
    · exact Nat.lt_of_lt_of_le (hw.lt _ _ (h.same p hp).1) h.le
    · exact Nat.lt_of_lt_of_le (hw.lt _ _ hb) h.le
  · rcases hcase id b hb with ⟨p, hp, rfl, rfl⟩ | ⟨_, hb⟩
    · obtain ⟨rfl, hne⟩ := Blk.regroup_grp hg
      exact (h.rng p hp hne).2
    · exact Nat.lt_of_lt_of_le (hw.glt _ _ _ hb hg) h.le
  · rcases hcase id _ hb with ⟨p, hp, rfl, e'⟩ | ⟨hn, hb⟩
    · have hgg : (p.2.regroup (q p.1)).grp? = some g := by rw [← e']; rfl
      obtain ⟨rfl, hne⟩ := Blk.regroup_grp hgg
      have hno : st'.grps.get (key (q p.1)) = none := by rw [h.grps]; exact hw.gnone _ (h.rng p hp hne).1
      simp only [hno]
      intro id2 b2 hb2 hg2
      rcases hcase id2 b2 hb2 with ⟨p2, hp2, rfl, rfl⟩ | ⟨_, hb2⟩
      · obtain ⟨e2, hne2⟩ := Blk.regroup_grp hg2
        exact h.inj p2 hp2 p hp hne2 hne e2.symm
      · have := hw.glt _ _ _ hb2 hg2
        have := (h.rng p hp hne).1
        omega
    · have := hw.grp id cs e fz g cap hb
      rw [h.grps]
      split
      · rename_i hg
        rw [hg] at this
        intro id2 b2 hb2 hg2
        rcases hcase id2 b2 hb2 with ⟨p2, hp2, rfl, rfl⟩ | ⟨_, hb2⟩
        · obtain ⟨e2, hne2⟩ := Blk.regroup_grp hg2
          have h1 := (h.rng p2 hp2 hne2).1
          have h2 := hw.glt _ _ g hb rfl
          omega
        · exact this id2 b2 hb2 hg2
      · rename_i mx ms hg
        rw [hg] at this
        exact this

/-! ### In the middle of a region -/
/-- What has been turned since (st0, μ0, w0): 'hv': what is there now; the blocks of X are not made yet; 'nx': the next number. -/
structure Mid (G : Globals) (N : Nat) (st0 : St) (μ0 : Mu) (w0 : World) (X : Nat → Prop) (hv : Nat → Option Blk) (nx : Nat) (μ : Mu) (w : World) : Prop where
  rel : RelV G N hv μ w
  ext : ∀ id, id < st0.next ∨ nx ≤ id → μ.b id = μ0.b id ∧ μ.x id = μ0.x id
  pend : ∀ id, X id → μ.b id = none
  gone : ∀ id, X id → hv id = none
  size : w0.heap.size ≤ w.heap.size
  frame : ∀ r, r < w0.heap.size → Free μ0 st0 r → w.heap[r]? = w0.heap[r]? ∧ FreeV hv μ r
  lock : ∀ id, hv id = some .locked → st0.heap.get (key id) = some .locked
  same : Same w0 w

variable {st0 : St} {μ0 : Mu} {w0 : World}

theorem Mid.begin {st : St} {μ : Mu} {w : World} (h : Rel G N μ st w) : Mid G N st μ w (fun _ => False) (view st) st.next μ w :=
  ⟨.of_rel h, fun _ _ => ⟨rfl, rfl⟩, fun _ h => h.elim, fun _ h => h.elim, Nat.le_refl _, fun r _ hf => ⟨rfl, hf⟩, fun _ h => h, Same.refl w⟩

theorem Mid.post {X : Nat → Prop} {st : St} {μ : Mu} {w : World} (h : Mid G N st0 μ0 w0 X (view st) st.next μ w) : Post G N st0 μ0 w0 st μ w :=
  ⟨h.rel.rel fun _ _ hb _ => hb, h.ext, h.size, h.frame, h.lock, h.same⟩

theorem Mid.congr {X X' : Nat → Prop} {hv hv' : Nat → Option Blk} {nx : Nat} {μ : Mu} {w : World} (h : Mid G N st0 μ0 w0 X hv nx μ w) (hX : ∀ id, X id ↔ X' id) (hh : ∀ id, hv id = hv' id) : Mid G N st0 μ0 w0 X' hv' nx μ w := by
  have e1 : X = X' := funext fun id => propext (hX id)
  have e2 : hv = hv' := funext hh
  rw [← e1, ← e2]; exact h

theorem Mid.le {X : Nat → Prop} {hv : Nat → Option Blk} {nx : Nat} {μ : Mu} {w : World} (h : Mid G N st0 μ0 w0 X hv nx μ w) (hf : Fresh μ0 st0.next nx) : Le μ0 μ := by
  intro id r hr
  by_cases h1 : id < st0.next ∨ nx ≤ id
  · have := h.ext id h1; exact ⟨by rw [this.1, hr], this.2⟩
  · have := hf id (by omega) (by omega); rw [this] at hr; cases hr

/-- A block laid in the shadow alone. -/
theorem Mid.lay {X : Nat → Prop} {hv : Nat → Option Blk} {nx : Nat} {μ : Mu} {w : World} (h : Mid G N st0 μ0 w0 X hv nx μ w) (hm : μ.b nx = none) (h0 : hv nx = none) :
    Mid G N st0 μ0 w0 (fun id => X id ∨ id = nx) hv (nx + 1) μ w :=
  ⟨h.rel, fun id hi => h.ext id (by omega), fun id hx => by rcases hx with hx | rfl; exact h.pend id hx; exact hm, fun id hx => by rcases hx with hx | rfl; exact h.gone id hx; exact h0, h.size, h.frame, h.lock, h.same⟩

theorem BR.new {μ : Mu} {id n r x : Nat} {b : Blk} {o : Option Obj} {q : Nat} (hid : μ.b id = some q) (hn : μ.b n = none) (h : BR μ id b o) : BR (μ.new n r x) id b o :=
  h.mono (Mu.le_new hn) hid

/-- A block of the shadow made in the world. -/
theorem Mid.make {X : Nat → Prop} {hv : Nat → Option Blk} {nx : Nat} {μ : Mu} {w : World} (h : Mid G N st0 μ0 w0 X hv nx μ w) {id : Nat} {b : Blk} {ob : Obj} (hx : X id) (h0 : st0.next ≤ id) (h1 : id < nx)
    (hop : b.open = true) (hbr : BR (μ.new id w.heap.size 0) id b (some ob)) :
    Mid G N st0 μ0 w0 (fun i => X i ∧ i ≠ id) (fun i => if i = id then some b else hv i) nx (μ.new id w.heap.size 0) (w.alloc ob) where
  rel := {
    blk := by
      intro id' b' hb' ho
      by_cases e : id' = id
      · subst e
        simp at hb'; subst hb'
        exact ⟨w.heap.size, by simp [Mu.new], h.rel.base, by simp, by rw [heap_alloc_new]; exact hbr⟩
      · simp [e] at hb'
        obtain ⟨r, q1, q2, q3, q4⟩ := h.rel.blk id' b' hb' ho
        exact ⟨r, by simp [Mu.new, e, q1], q2, by simp; omega, by rw [heap_alloc_lt q3]; exact q4.new q1 (h.pend id hx)⟩
    sep := by
      intro id1 id2 b1 b2 r hne hb1 ho1 hb2 ho2 m1 m2
      by_cases e1 : id1 = id
      · have e2 : id2 ≠ id := by rintro rfl; exact hne e1
        simp [e2] at hb2
        obtain ⟨q, q1, _, q3, _⟩ := h.rel.blk id2 b2 hb2 ho2
        simp [Mu.new, e1] at m1; simp [Mu.new, e2, q1] at m2; omega
      · by_cases e2 : id2 = id
        · simp [e1] at hb1
          obtain ⟨q, q1, _, q3, _⟩ := h.rel.blk id1 b1 hb1 ho1
          simp [Mu.new, e2] at m2; simp [Mu.new, e1, q1] at m1; omega
        · simp [e1] at hb1; simp [e2] at hb2
          simp [Mu.new, e1] at m1; simp [Mu.new, e2] at m2
          exact h.rel.sep id1 id2 b1 b2 r hne hb1 ho1 hb2 ho2 m1 m2
    glob := by
      intro g cs hg
      obtain ⟨hl, arr, e, fz, q1, q2⟩ := h.rel.glob g cs hg
      exact ⟨hl, arr, e, fz, by rw [heap_alloc_lt (Nat.lt_of_lt_of_le hl h.rel.base)]; exact q1, q2⟩
    base := by have := h.rel.base; simp; omega }
  ext := fun id' hi => by
    have : id' ≠ id := by rintro rfl; omega
    simp only [Mu.new, this, if_false]; exact h.ext id' hi
  pend := fun id' hX => by simp only [Mu.new, hX.2, if_false]; exact h.pend id' hX.1
  gone := fun id' hX => by simp only [hX.2, if_false]; exact h.gone id' hX.1
  size := by have := h.size; simp; omega
  frame := fun r hr hf => by
    obtain ⟨q1, q2⟩ := h.frame r hr hf
    refine ⟨by rw [heap_alloc_lt (Nat.lt_of_lt_of_le hr h.size)]; exact q1, fun id' b' hb' ho => ?_⟩
    by_cases e : id' = id
    · have := h.size
      simp only [Mu.new, e, if_true]
      intro hc; cases hc; omega
    · simp [e] at hb'
      simp only [Mu.new, e, if_false]; exact q2 id' b' hb' ho
  lock := fun id' hl => by
    by_cases e : id' = id
    · simp [e] at hl; subst hl; cases hop
    · simp [e] at hl; exact h.lock id' hl
  same := h.same.trans ⟨rfl, rfl, rfl⟩

/-- A block turned that shares with nobody. -/
theorem Mid.turn {X : Nat → Prop} {hv : Nat → Option Blk} {nx : Nat} {μ : Mu} {w w' : World} (h : Mid G N st0 μ0 w0 X hv nx μ w) {id r : Nat} {b b1 : Blk} (hb : hv id = some b) (hop : b.open = true) (hg : b.grp? = none) (hop1 : b1.open = true) (hm : μ.b id = some r)
    (hbr : BR μ id b1 w'.heap[r]?) (hsz : w.heap.size ≤ w'.heap.size) (hoth : ∀ r', r' < w.heap.size → r' ≠ r → w'.heap[r']? = w.heap[r']?) (hglob : GlobOk G N w') (hs : Same w w') :
    Mid G N st0 μ0 w0 X (fun i => if i = id then some b1 else hv i) nx μ w' where
  rel := {
    blk := by
      intro id' b' hb' ho
      by_cases e : id' = id
      · subst e
        simp at hb'; subst hb'
        obtain ⟨r', q1, q2, q3, _⟩ := h.rel.blk id' b hb hop
        rw [hm] at q1; cases q1
        exact ⟨r, hm, q2, by omega, hbr⟩
      · simp [e] at hb'
        obtain ⟨r', q1, q2, q3, q4⟩ := h.rel.blk id' b' hb' ho
        have hne : r' ≠ r := by
          rintro rfl
          obtain ⟨g, _, hg2⟩ := h.rel.sep id' id b' b r' e hb' ho hb hop q1 hm
          rw [hg] at hg2; cases hg2
        exact ⟨r', q1, q2, by omega, by rw [hoth r' q3 hne]; exact q4⟩
    sep := by
      intro id1 id2 b1' b2 r' hne hb1 ho1 hb2 ho2 m1 m2
      by_cases e1 : id1 = id
      · have e2 : id2 ≠ id := by rintro rfl; exact hne e1
        simp [e2] at hb2
        exfalso
        rw [e1, hm] at m1; cases m1
        obtain ⟨g, _, hg2⟩ := h.rel.sep id2 id b2 b r e2 hb2 ho2 hb hop m2 hm
        rw [hg] at hg2; cases hg2
      · by_cases e2 : id2 = id
        · simp [e1] at hb1
          exfalso
          rw [e2, hm] at m2; cases m2
          obtain ⟨g, _, hg2⟩ := h.rel.sep id1 id b1' b r e1 hb1 ho1 hb hop m1 hm
          rw [hg] at hg2; cases hg2
        · simp [e1] at hb1; simp [e2] at hb2
          exact h.rel.sep id1 id2 b1' b2 r' hne hb1 ho1 hb2 ho2 m1 m2
    glob := hglob
    base := by have := h.rel.base; omega }
  ext := h.ext
  pend := h.pend
  gone := fun id' hX => by
    have : id' ≠ id := by rintro rfl; rw [h.gone _ hX] at hb; cases hb
    simp only [this, if_false]; exact h.gone id' hX
  size := Nat.le_trans h.size hsz
  frame := fun r' hr hf => by
    obtain ⟨q1, q2⟩ := h.frame r' hr hf
    have hne : r' ≠ r := by rintro rfl; exact q2 id b hb hop hm
    refine ⟨by rw [hoth r' (Nat.lt_of_lt_of_le hr h.size) hne]; exact q1, fun id' b' hb' ho => ?_⟩
    by_cases e : id' = id
    · rw [e, hm]; intro hc; cases hc; exact hne rfl
    · simp [e] at hb'; exact q2 id' b' hb' ho
  lock := fun id' hl => by
    by_cases e : id' = id
    · simp [e] at hl; subst hl; cases hop1
    · simp [e] at hl; exact h.lock id' hl
  same := h.same.trans hs

/-- A loud operation, the blocks of S out of its sight. -/
theorem Mid.loud {X : Nat → Prop} {hv hv2 : Nat → Option Blk} {n nx2 : Nat} {g : T (Nat × List Nat)} {st1 : St} {μ μ1 : Mu} {w w1 : World} (h : Mid G N st0 μ0 w0 X hv n μ w) {S : Nat → Prop} {hL : T Blk}
    (hin : ∀ id, S id → hL.get (key id) = some .locked ∧ id < n) (hout : ∀ id, ¬ S id → hL.get (key id) = hv id)
    (hpl : ∀ id b, S id → hv id = some b → b.open = true ∧ ∀ id2 b2 g, hv id2 = some b2 → b.grp? = some g → b2.grp? = some g → id2 = id)
    (hXS : ∀ id, X id → S id) (hfr : Fresh μ n st1.next) (hn : n ≤ st1.next) (hn2 : st1.next ≤ nx2) (hn0 : st0.next ≤ n) (hp : Post G N ⟨hL, g, n⟩ μ w st1 μ1 w1)
    (hvo : ∀ id, ¬ S id → hv2 id = st1.heap.get (key id)) (hvn : ∀ id, S id → hv id = none → hv2 id = none) (hvs : ∀ id b, S id → hv id = some b → ∃ q, hv2 id = some (b.regroup q)) : Mid G N st0 μ0 w0 X hv2 nx2 μ1 w1 := by
  have hle : Le μ μ1 := hp.le hfr
  -- a block of S that is there already
  have hdone : ∀ id b, S id → hv id = some b → ∃ r, μ.b id = some r ∧ μ1.b id = some r ∧ N ≤ r ∧ r < w1.heap.size ∧ BR μ1 id b w1.heap[r]? ∧ Free μ1 st1 r := by
    intro id b hs hb
    obtain ⟨hop, hal⟩ := hpl id b hs hb
    obtain ⟨r, q1, q2, q3, q4⟩ := h.rel.blk id b hb hop
    have hfree : Free μ ⟨hL, g, n⟩ r := by
      intro id2 b2 hb2 ho2 e
      by_cases hs2 : S id2
      · rw [(hin id2 hs2).1] at hb2; cases hb2; cases ho2
      · have hb2 : hv id2 = some b2 := by rw [← hout id2 hs2]; exact hb2
        have hne : id2 ≠ id := by rintro rfl; exact hs2 hs
        obtain ⟨g', hg1, hg2⟩ := h.rel.sep id2 id b2 b r hne hb2 ho2 hb hop e q1
        exact hne (hal id2 b2 g' hb2 hg2 hg1)
    obtain ⟨q5, q6⟩ := hp.frame r q3 hfree
    exact ⟨r, q1, (hle _ _ q1).1, q2, Nat.lt_of_lt_of_le q3 hp.size, by rw [q5]; exact q4.mono hle q1, q6⟩
  have hcase : ∀ id b, hv2 id = some b → (S id ∧ ∃ b0 q, hv id = some b0 ∧ b = b0.regroup q) ∨ (¬ S id ∧ st1.heap.get (key id) = some b) := by
    intro id b hb
    by_cases hs : S id
    · cases hb0 : hv id with
      | none => rw [hvn id hs hb0] at hb; cases hb
      | some b0 =>
        obtain ⟨q, hq⟩ := hvs id b0 hs hb0
        rw [hq] at hb; cases hb
        exact .inl ⟨hs, b0, q, rfl, rfl⟩
    · exact .inr ⟨hs, by rw [← hvo id hs]; exact hb⟩
  refine ⟨⟨fun id b hb ho => ?_, fun id1 id2 b1 b2 r hne hb1 ho1 hb2 ho2 m1 m2 => ?_, hp.rel.glob, hp.rel.base⟩, fun id hi => ?_, fun id hX => ?_, fun id hX => hvn id (hXS id hX) (h.gone id hX), Nat.le_trans h.size hp.size, fun r hr hf => ?_, fun id hlk => ?_, h.same.trans hp.same⟩
  · rcases hcase id b hb with ⟨hs, b0, q, hb0, rfl⟩ | ⟨_, hb⟩
    · obtain ⟨r, _, q2, q3, q4, q5, _⟩ := hdone id b0 hs hb0
      exact ⟨r, q2, q3, q4, q5.regroup⟩
    · exact hp.rel.blk id b hb ho
  · rcases hcase id1 b1 hb1 with ⟨hs1, c1, q1, hc1, rfl⟩ | ⟨_, hb1⟩ <;> rcases hcase id2 b2 hb2 with ⟨hs2, c2, q2, hc2, rfl⟩ | ⟨_, hb2⟩
    · exfalso
      obtain ⟨r1, p1, p2, _⟩ := hdone id1 c1 hs1 hc1
      obtain ⟨r2, p3, p4, _⟩ := hdone id2 c2 hs2 hc2
      rw [p2] at m1; rw [p4] at m2; cases m1; cases m2
      obtain ⟨g', hg1, hg2⟩ := h.rel.sep id1 id2 c1 c2 r hne hc1 (hpl id1 c1 hs1 hc1).1 hc2 (hpl id2 c2 hs2 hc2).1 p1 p3
      exact hne ((hpl id1 c1 hs1 hc1).2 id2 c2 g' hc2 hg1 hg2).symm
    · exfalso
      obtain ⟨r1, p1, p2, _, _, _, p6⟩ := hdone id1 c1 hs1 hc1
      rw [p2] at m1; cases m1
      exact p6 id2 b2 hb2 ho2 m2
    · exfalso
      obtain ⟨r1, p1, p2, _, _, _, p6⟩ := hdone id2 c2 hs2 hc2
      rw [p2] at m2; cases m2
      exact p6 id1 b1 hb1 ho1 m1
    · exact hp.rel.sep id1 id2 b1 b2 r hne hb1 ho1 hb2 ho2 m1 m2
  · have h1 := hp.ext id (by simp only; omega)
    have h2 := h.ext id (by omega)
    exact ⟨h1.1.trans h2.1, h1.2.trans h2.2⟩
  · have h1 := hp.ext id (.inl (hin id (hXS id hX)).2)
    rw [h1.1]; exact h.pend id hX
  · obtain ⟨q1, q2⟩ := h.frame r hr hf
    have hfree : Free μ ⟨hL, g, n⟩ r := by
      intro id b hb ho
      by_cases hs : S id
      · rw [(hin id hs).1] at hb; cases hb; cases ho
      · have hb : hv id = some b := by rw [← hout id hs]; exact hb
        exact q2 id b hb ho
    obtain ⟨q3, q4⟩ := hp.frame r (Nat.lt_of_lt_of_le hr h.size) hfree
    refine ⟨q3.trans q1, fun id b hb ho => ?_⟩
    rcases hcase id b hb with ⟨hs, b0, q, hb0, rfl⟩ | ⟨_, hb⟩
    · obtain ⟨r', p1, p2, _⟩ := hdone id b0 hs hb0
      intro e
      rw [p2] at e; cases e
      exact q2 id b0 hb0 (hpl id b0 hs hb0).1 p1
    · exact q4 id b hb ho
  · rcases hcase id _ hlk with ⟨hs, b0, q, hb0, e⟩ | ⟨hs, hb⟩
    · have h1 := (hpl id b0 hs hb0).1
      rw [← Blk.regroup_open (q := q), ← e] at h1; cases h1
    · have h1 := hp.lock id hb
      simp only at h1
      rw [hout id hs] at h1
      exact h.lock id h1
end
end Go.Shd
/- Operations of a drawn region that are put off. -/
namespace Go.Shd
noncomputable section
variable {G : Globals} {P : Program}

/-! ### What an operation looks at -/
theorem operand_looks {ops : Array Oper} {o : Oper} {t : Tmp} (h : Operand.tmp t ∈ o.op.operands) : t ∈ looksK ops o := by
  unfold looksK
  refine List.mem_append_left _ (List.mem_filterMap.2 ⟨.tmp t, by simpa using h, rfl⟩)

theorem OpR_congr {ops : Array Oper} {o : Oper} {tm tm' : T AV} (h : ∀ t ∈ looksK ops o, tm.get (key t) = tm'.get (key t)) {μ : Mu} {ρ : Operand → Value} (hx : ∀ x ∈ o.op.operands, OpR μ tm ρ x) : ∀ x ∈ o.op.operands, OpR μ tm' ρ x := by
  intro x hm
  have := hx x hm
  cases x with
  | tmp t => simp only [OpR] at this ⊢; rw [← h t (operand_looks hm)]; exact this
  | const v => exact this
  | global g => exact this
  | func f => exact this

theorem wantedK_congr {ops : Array Oper} {o : Oper} {tm tm' : T AV} (h : ∀ t ∈ looksK ops o, tm.get (key t) = tm'.get (key t)) : wantedK ops o tm = wantedK ops o tm' := by
  unfold wantedK
  cases hg : o.guard with
  | none => rfl
  | some p =>
    obtain ⟨j, want⟩ := p
    simp only
    cases hoj : ops[j]? with
    | none => rfl
    | some oj =>
      simp only
      cases hd : oj.dst with
      | none => rfl
      | some d =>
        simp only
        rw [h d (by unfold looksK; rw [hg]; simp [hoj, hd])]

theorem tset_get {dst : Option Tmp} {v : AV} {tm : T AV} {t : Tmp} (h : dst ≠ some t) : (tset dst v tm).get (key t) = tm.get (key t) := by
  cases dst with
  | none => rfl
  | some d => simp only [tset, T.get_set]; rw [if_neg (by rintro rfl; exact h rfl)]
theorem tset_same {d : Tmp} {v : AV} {tm : T AV} : (tset (some d) v tm).get (key d) = some v := by simp [tset, T.get_set]

/-! ### The region's strictness -/
theorem rowsK_mem {ops : Array Oper} {bf : Array Nat} {i : Nat} {o : Oper} (h : ops[i]? = some o) : (i, o.dst, looksK ops o, loudU o, bf.getD i 0) ∈ rowsK ops bf := by
  unfold rowsK
  refine List.mem_map.2 ⟨(o, i), ?_, rfl⟩
  rw [List.mk_mem_zipIdx_iff_getElem?]
  simpa using h

structure Strict (ops : Array Oper) (bf : Array Nat) : Prop where
  own : ∀ (i : Nat) (o : Oper) (d : Tmp), ops[i]? = some o → o.dst = some d → loudU o = true ∨ d ∉ looksK ops o
  dst : ∀ (i : Nat) (o : Oper) (d : Tmp) (j : Nat) (o' : Oper), ops[i]? = some o → o.dst = some d → ops[j]? = some o' → i ≠ j → o'.dst = some d → ((bf.getD j 0).testBit i = true ∧ loudU o' = true) ∨ ((bf.getD i 0).testBit j = true ∧ loudU o = true)
  look : ∀ (i : Nat) (o : Oper) (d : Tmp) (j : Nat) (o' : Oper), ops[i]? = some o → o.dst = some d → ops[j]? = some o' → i ≠ j → d ∈ looksK ops o' → (bf.getD j 0).testBit i = true ∨ ((bf.getD i 0).testBit j = true ∧ loudU o = true)

theorem strict_of {ops : Array Oper} {bf : Array Nat} (h : strictOk ops bf = true) : Strict ops bf := by
  unfold strictOk at h
  simp only [List.all_eq_true] at h
  have key1 : ∀ (i : Nat) (o : Oper) (d : Tmp), ops[i]? = some o → o.dst = some d → ∀ (j : Nat) (o' : Oper), ops[j]? = some o' → (match Nat.beq i j with
      | true => loudU o || (looksK ops o').all fun t => !Nat.beq t d
      | false =>
        (match o'.dst with
          | some d' => !Nat.beq d d' || (Nat.testBit (bf.getD j 0) i && loudU o') || (Nat.testBit (bf.getD i 0) j && loudU o)
          | none => true) &&
        (Nat.testBit (bf.getD j 0) i || (Nat.testBit (bf.getD i 0) j && loudU o) || (looksK ops o').all fun t => !Nat.beq t d)) = true := by
    intro i o d hi hd j o' hj
    have h1 := h _ (rowsK_mem (bf := bf) hi)
    simp only [hd] at h1
    rw [List.all_eq_true] at h1
    exact h1 _ (rowsK_mem (bf := bf) hj)
  have hne : ∀ {a b : Nat}, a ≠ b → Nat.beq a b = false := by
    intro a b hab
    cases hb : Nat.beq a b with
    | false => rfl
    | true => exact absurd (Nat.eq_of_beq_eq_true hb) hab
  have hall : ∀ {d : Nat} {l : List Nat}, (l.all fun t => !Nat.beq t d) = true → d ∉ l := by
    intro d l hl hm
    have := List.all_eq_true.1 hl d hm
    rw [Nat.beq_refl] at this; cases this
  refine ⟨fun i o d hi hd => ?_, fun i o d j o' hi hd hj hij hd' => ?_, fun i o d j o' hi hd hj hij hl => ?_⟩
  · have := key1 i o d hi hd i o hi
    rw [Nat.beq_refl] at this
    simp only [Bool.or_eq_true] at this
    exact this.imp id hall
  · have := key1 i o d hi hd j o' hj
    rw [hne hij] at this
    simp only [hd', Nat.beq_refl, Bool.not_true, Bool.false_or, Bool.and_eq_true, Bool.or_eq_true] at this
    exact this.1
  · have := key1 i o d hi hd j o' hj
    rw [hne hij] at this
    simp only [Bool.and_eq_true, Bool.or_eq_true] at this
    rcases this.2 with (h1 | h1) | h1
    · exact .inl h1
    · exact .inr h1
    · exact absurd hl (hall h1)

/-! ### Operations put off -/
inductive PK where
  | skip | quiet | read
  | make (id : Nat) (b : Blk)
  | fill (id c : Nat) (b : Blk)

structure Pe where
  i : Nat
  o : Oper
  v : AV
  kd : PK

/-- The blocks that operation i need not see. -/
def Un (bf : Array Nat) (allocs : List (Nat × Nat)) (i : Nat) (id : Nat) : Prop := ∃ j, (j, id) ∈ allocs ∧ (bf.getD i 0).testBit j = false

open Classical in
def seeUn (bf : Array Nat) (allocs : List (Nat × Nat)) (i : Nat) (st : St) (id : Nat) : Option Blk := if Un bf allocs i id then none else st.heap.get (key id)

theorem seeUn_some {bf : Array Nat} {allocs : List (Nat × Nat)} {i : Nat} {st : St} {id : Nat} {b : Blk} (h : seeUn bf allocs i st id = some b) : ¬ Un bf allocs i id ∧ st.heap.get (key id) = some b := by
  unfold seeUn at h
  split at h
  · cases h
  · rename_i hn; exact ⟨hn, h⟩
theorem seeUn_of {bf : Array Nat} {allocs : List (Nat × Nat)} {i : Nat} {st : St} {id : Nat} (h : ¬ Un bf allocs i id) : seeUn bf allocs i st id = st.heap.get (key id) := by
  unfold seeUn; rw [if_neg h]

def QuietS (P : Program) (G : Globals) (o : Oper) (tm : T AV) (v : AV) : Prop :=
  ∀ N μ w ρ, GlobOk G N w → N ≤ w.heap.size → (∀ x ∈ o.op.operands, OpR μ tm ρ x) → ∃ V, (execOp ρ o).run P w = .ok (.value V) w ∧ VR μ v V

def ReadS (P : Program) (G : Globals) (bf : Array Nat) (allocs : List (Nat × Nat)) (i : Nat) (o : Oper) (tm : T AV) (st : St) (v : AV) : Prop :=
  ∀ N μ w ρ, RelV G N (seeUn bf allocs i st) μ w → (∀ x ∈ o.op.operands, OpR μ tm ρ x) → ∃ V, (execOp ρ o).run P w = .ok (.value V) w ∧ VR μ v V

def MadeS (P : Program) (G : Globals) (o : Oper) (tm : T AV) (id : Nat) (b : Blk) (v : AV) : Prop :=
  ∀ N μ w ρ, GlobOk G N w → N ≤ w.heap.size → (∀ x ∈ o.op.operands, OpR μ tm ρ x) → μ.b id = none → ∃ V ob, (execOp ρ o).run P w = .ok (.value V) (w.alloc ob) ∧
    BR (μ.new id w.heap.size 0) id b (some ob) ∧ VR (μ.new id w.heap.size 0) v V

def FilledS (P : Program) (G : Globals) (o : Oper) (tm : T AV) (id c : Nat) (b : Blk) (v : AV) : Prop :=
  ∀ N μ w ρ r, GlobOk G N w → N ≤ w.heap.size → (∀ x ∈ o.op.operands, OpR μ tm ρ x) → μ.b id = some r → N ≤ r → r < w.heap.size → BR μ id (.map [] c) w.heap[r]? →
    ∃ w', ((∃ V, (execOp ρ o).run P w = .ok (.value V) w' ∧ VR μ v V) ∨ ((execOp ρ o).run P w = .ok .skip w' ∧ v = aundef)) ∧ BR μ id b w'.heap[r]? ∧ w.heap.size ≤ w'.heap.size ∧
      (∀ r', r' < w.heap.size → r' ≠ r → w'.heap[r']? = w.heap[r']?) ∧ GlobOk G N w' ∧ Same w w'

/-- The map's name is among what it looks at. -/
def NamesMap (o : Oper) (tm : T AV) (id : Nat) : Prop := ∃ t, Operand.tmp t ∈ o.op.operands ∧ tm.get (key t) = some (.mp id)

def Does (P : Program) (G : Globals) (ops : Array Oper) (bf : Array Nat) (allocs : List (Nat × Nat)) (tm : T AV) (st : St) (p : Pe) : Prop :=
  match p.kd with
  | .skip => wantedK ops p.o tm = false ∧ p.v = aundef
  | .quiet => wantedK ops p.o tm = true ∧ QuietS P G p.o tm p.v
  | .read => wantedK ops p.o tm = true ∧ ReadS P G bf allocs p.i p.o tm st p.v
  | .make id b => wantedK ops p.o tm = true ∧ (p.i, id) ∈ allocs ∧ b.open = true ∧ MadeS P G p.o tm id b p.v
  | .fill id c b => wantedK ops p.o tm = true ∧ (p.i, id) ∈ allocs ∧ st.heap.get (key id) = some b ∧ (∃ e es c', b = .map (e :: es) c') ∧ NamesMap p.o tm id ∧ FilledS P G p.o tm id c b p.v

structure PendOk (P : Program) (G : Globals) (ops : Array Oper) (bf : Array Nat) (sz : Nat) (reads : List (Nat × AV)) (allocs : List (Nat × Nat)) (tm : T AV) (st : St) (p : Pe) : Prop where
  op : ops[p.i]? = some p.o
  soft : loudU p.o = false ∧ (p.kd ≠ .skip → kindOf p.o.op ≠ .loud) ∧ (p.kd = .read → (kindOf p.o.op).eff = false)
  lt : ∀ d, p.o.dst = some d → d < sz
  val : ∀ d, p.o.dst = some d → tm.get (key d) = some p.v
  does : Does P G ops bf allocs tm st p
  again : p.kd = .read → (p.i, p.v) ∈ reads

theorem QuietS.congr {ops : Array Oper} {o : Oper} {tm tm' : T AV} {v : AV} (h : QuietS P G o tm v) (ht : ∀ t ∈ looksK ops o, tm.get (key t) = tm'.get (key t)) : QuietS P G o tm' v :=
  fun N μ w ρ h1 h2 hx => h N μ w ρ h1 h2 (OpR_congr (fun t hm => (ht t hm).symm) hx)
theorem ReadS.congr {ops : Array Oper} {bf : Array Nat} {allocs : List (Nat × Nat)} {i : Nat} {o : Oper} {tm tm' : T AV} {st : St} {v : AV} (h : ReadS P G bf allocs i o tm st v) (ht : ∀ t ∈ looksK ops o, tm.get (key t) = tm'.get (key t)) : ReadS P G bf allocs i o tm' st v :=
  fun N μ w ρ h1 hx => h N μ w ρ h1 (OpR_congr (fun t hm => (ht t hm).symm) hx)
theorem MadeS.congr {ops : Array Oper} {o : Oper} {tm tm' : T AV} {id : Nat} {b : Blk} {v : AV} (h : MadeS P G o tm id b v) (ht : ∀ t ∈ looksK ops o, tm.get (key t) = tm'.get (key t)) : MadeS P G o tm' id b v :=
  fun N μ w ρ h1 h2 hx => h N μ w ρ h1 h2 (OpR_congr (fun t hm => (ht t hm).symm) hx)
theorem FilledS.congr {ops : Array Oper} {o : Oper} {tm tm' : T AV} {id c : Nat} {b : Blk} {v : AV} (h : FilledS P G o tm id c b v) (ht : ∀ t ∈ looksK ops o, tm.get (key t) = tm'.get (key t)) : FilledS P G o tm' id c b v :=
  fun N μ w ρ r h1 h2 hx => h N μ w ρ r h1 h2 (OpR_congr (fun t hm => (ht t hm).symm) hx)
theorem NamesMap.congr {ops : Array Oper} {o : Oper} {tm tm' : T AV} {id : Nat} (h : NamesMap o tm id) (ht : ∀ t ∈ looksK ops o, tm.get (key t) = tm'.get (key t)) : NamesMap o tm' id := by
  obtain ⟨t, h1, h2⟩ := h
  exact ⟨t, h1, by rw [← ht t (operand_looks h1)]; exact h2⟩

/-- What it does, where the temporaries that it looks at are the same. -/
theorem Does.congr {ops : Array Oper} {bf : Array Nat} {allocs : List (Nat × Nat)} {tm tm' : T AV} {st : St} {p : Pe} (h : Does P G ops bf allocs tm st p) (ht : ∀ t ∈ looksK ops p.o, tm.get (key t) = tm'.get (key t)) : Does P G ops bf allocs tm' st p := by
  unfold Does at h ⊢
  have hw := wantedK_congr ht
  cases hkd : p.kd <;> rw [hkd] at h <;> simp only at h ⊢
  · exact ⟨by rw [← hw]; exact h.1, h.2⟩
  · exact ⟨by rw [← hw]; exact h.1, h.2.congr ht⟩
  · exact ⟨by rw [← hw]; exact h.1, h.2.congr ht⟩
  · exact ⟨by rw [← hw]; exact h.1, h.2.1, h.2.2.1, h.2.2.2.congr ht⟩
  · exact ⟨by rw [← hw]; exact h.1, h.2.1, h.2.2.1, h.2.2.2.1, h.2.2.2.2.1.congr ht, h.2.2.2.2.2.congr ht⟩

def XU (U : Pe → Prop) (id : Nat) : Prop := ∃ p b, U p ∧ p.kd = .make id b

open Classical in
def FU (U : Pe → Prop) (id : Nat) : Option Nat := if h : ∃ c p b, U p ∧ p.kd = .fill id c b then some h.choose else none

theorem FU_none {U : Pe → Prop} {id : Nat} (h : ∀ p c b, U p → p.kd ≠ .fill id c b) : FU U id = none := by
  unfold FU
  rw [dif_neg]
  rintro ⟨c, p, b, hp, e⟩
  exact h p c b hp e

theorem FU_some {U : Pe → Prop} (huni : ∀ p q id c b c' b', U p → U q → p.kd = .fill id c b → q.kd = .fill id c' b' → p = q) {p : Pe} {id c : Nat} {b : Blk} (hp : U p) (e : p.kd = .fill id c b) : FU U id = some c := by
  unfold FU
  have hex : ∃ c p b, U p ∧ p.kd = .fill id c b := ⟨c, p, b, hp, e⟩
  rw [dif_pos hex]
  obtain ⟨q, b', hq, e'⟩ := hex.choose_spec
  have := huni p q id _ _ _ _ hp hq e e'
  subst this
  rw [e] at e'
  cases e'; rfl

theorem FU_eq {U : Pe → Prop} {id c : Nat} (h : FU U id = some c) : ∃ p b, U p ∧ p.kd = .fill id c b := by
  unfold FU at h
  split at h
  · rename_i hex
    cases h
    exact hex.choose_spec
  · cases h

open Classical in
/-- What is there: what is put off is not made, not filled. -/
def hvU (U : Pe → Prop) (st : St) (id : Nat) : Option Blk := if XU U id then none else match FU U id with
  | some c => some (.map [] c)
  | none => st.heap.get (key id)

theorem hvU_X {U : Pe → Prop} {st : St} {id : Nat} (h : XU U id) : hvU U st id = none := by unfold hvU; rw [if_pos h]
theorem hvU_F {U : Pe → Prop} {st : St} {id c : Nat} (h : ¬ XU U id) (hf : FU U id = some c) : hvU U st id = some (.map [] c) := by unfold hvU; rw [if_neg h, hf]
theorem hvU_st {U : Pe → Prop} {st : St} {id : Nat} (h : ¬ XU U id) (hf : FU U id = none) : hvU U st id = st.heap.get (key id) := by unfold hvU; rw [if_neg h, hf]

/-- The frame: what is put off is not in it yet. -/
def FRS (μ : Mu) (U : Pe → Prop) (fn : FuncId) (tm : T AV) (sz : Nat) (defs : List DItem) (rnd : Option Nat) (dfd : Bool) (mf : Frame) : Prop :=
  ∃ tm2, FR0 μ fn tm2 sz defs rnd dfd mf ∧ ∀ t, (∀ p, U p → p.o.dst ≠ some t) → tm2.get (key t) = tm.get (key t)

theorem FRS.all {μ : Mu} {U : Pe → Prop} {fn : FuncId} {tm : T AV} {sz : Nat} {defs : List DItem} {rnd : Option Nat} {dfd : Bool} {mf : Frame} (h : FRS μ U fn tm sz defs rnd dfd mf) (hU : ∀ p, ¬ U p) : FR0 μ fn tm sz defs rnd dfd mf := by
  obtain ⟨tm2, h1, h2⟩ := h
  refine ⟨h1.hfn, ⟨h1.htm.1, fun i => ?_⟩, h1.hdefs, h1.hkind, h1.hrnd, h1.plain⟩
  rw [← h2 i (fun p hp => absurd hp (hU p))]
  exact h1.htm.2 i

/-- What is put off, all of it. -/
structure UOk (P : Program) (G : Globals) (ops : Array Oper) (bf : Array Nat) (sz : Nat) (reads : List (Nat × AV)) (allocs : List (Nat × Nat)) (tm : T AV) (st0 st : St) (U : Pe → Prop) : Prop where
  ok : ∀ p, U p → PendOk P G ops bf sz reads allocs tm st p
  uni : ∀ p q, U p → U q → p.i = q.i → p = q
  mku : ∀ p q id b b', U p → U q → p.kd = .make id b → q.kd = .make id b' → p = q
  fiu : ∀ p q id c b c' b', U p → U q → p.kd = .fill id c b → q.kd = .fill id c' b' → p = q
  mkb : ∀ p id b, U p → p.kd = .make id b → ((∀ q c b1, U q → q.kd ≠ .fill id c b1) → ∃ g, st.heap.get (key id) = some (b.regroup g)) ∧ ∀ q c b1, U q → q.kd = .fill id c b1 → b = .map [] c
  al : ∀ a ∈ allocs, st0.next ≤ a.2 ∧ a.2 < st.next

variable {N : Nat} {st0 : St} {μ0 : Mu} {w0 : World}

/-- One that was put off is done. -/
theorem pend_step {ops : Array Oper} (hstr : Strict ops (Region.before ops)) {sz : Nat} {reads : List (Nat × AV)} {allocs : List (Nat × Nat)} {tm : T AV} {st : St} {U : Pe → Prop} {p : Pe} {rest : List Nat} {k : List Item}
    {fn : FuncId} {defs : List DItem} {rnd : Option Nat} {dfd : Bool} {mf : Frame} {cs : List Frame} {μ : Mu} {w : World}
    (hU : UOk P G ops (Region.before ops) sz reads allocs tm st0 st U)
    (hp : U p) (hready : ∀ q, U q → q.i ≠ p.i → ((Region.before ops).getD p.i 0).testBit q.i = false)
    (hmid : Mid G N st0 μ0 w0 (XU U) (hvU U st) st.next μ w) (hfr : FRS μ U fn tm sz defs rnd dfd mf) (hat : InR ops (p.i :: rest) k mf) :
    ∃ μ' w' mf', Mid G N st0 μ0 w0 (XU fun q => U q ∧ q.i ≠ p.i) (hvU (fun q => U q ∧ q.i ≠ p.i) st) st.next μ' w' ∧ Steps P (lone mf cs w) (lone mf' cs w') ∧ FRS μ' (fun q => U q ∧ q.i ≠ p.i) fn tm sz defs rnd dfd mf' ∧ InR ops rest k mf' ∧ Le μ μ' ∧
      UOk P G ops (Region.before ops) sz reads allocs tm st0 st (fun q => U q ∧ q.i ≠ p.i) := by
  have hok := hU.ok p hp
  obtain ⟨tm2, hF, htm2⟩ := hfr
  obtain ⟨hm, ht⟩ := hat
  -- nobody put off writes what p looks at
  have hlook : ∀ t ∈ looksK ops p.o, tm.get (key t) = tm2.get (key t) := by
    intro t htl
    refine (htm2 t fun q hq hd => ?_).symm
    by_cases e : q.i = p.i
    · have := hU.uni q p hq hp e
      subst this
      rcases hstr.own q.i q.o t hok.op hd with h1 | h1
      · rw [hok.soft.1] at h1; cases h1
      · exact h1 htl
    · rcases hstr.look q.i q.o t p.i p.o (hU.ok q hq).op hd hok.op e htl with h1 | ⟨_, h1⟩
      · rw [hready q hq e] at h1; cases h1
      · rw [(hU.ok q hq).soft.1] at h1; cases h1
  have hdd : (ops[p.i]?).bind (·.dst) = p.o.dst := by rw [hok.op]; rfl
  -- the frame behind it
  have hfin : ∀ μ' V, FR0 μ' fn tm2 sz defs rnd dfd mf → VR μ' p.v V → FRS μ' (fun q => U q ∧ q.i ≠ p.i) fn tm sz defs rnd dfd (mf.finish V) ∧ InR ops rest k (mf.finish V) := by
    intro μ' V hF' hv
    obtain ⟨h1, h2, h3⟩ := hF'.finish ht (V := V) (tm' := tset p.o.dst p.v tm2) (by rw [hdd]; exact hF'.htm.tset hok.lt hv) hm
    refine ⟨⟨_, h1, fun t hn => ?_⟩, h3, h2⟩
    by_cases e : p.o.dst = some t
    · rw [e, tset_same, hok.val t e]
    · rw [tset_get e]
      refine htm2 t fun q hq hd => ?_
      by_cases e2 : q.i = p.i
      · have := hU.uni q p hq hp e2
        subst this; exact e hd
      · exact hn q ⟨hq, e2⟩ hd
  have hx : ∀ μ', FR0 μ' fn tm2 sz defs rnd dfd mf → ∀ x ∈ p.o.op.operands, OpR μ' tm mf.eval x := fun μ' hF' => OpR_congr (tm := tm2) (fun t hm => (hlook t hm).symm) (fun x _ => hF'.eval x)
  have hwant : Region.wanted p.o (yielded ops mf.tmps) = wantedK ops p.o tm := by rw [wanted_eq hF.htm]; exact wantedK_congr fun t hm => (hlook t hm).symm
  have hnodefer : kindOf p.o.op ≠ .loud → ∀ c, p.o.op ≠ .defer c := by
    intro hl c hc; rw [hc] at hl; exact hl rfl
  have hdoes := hok.does
  unfold Does at hdoes
  have sameX : (∀ id b, p.kd ≠ .make id b) → ∀ id, XU U id ↔ XU (fun q => U q ∧ q.i ≠ p.i) id := by
    intro hk id
    constructor
    · rintro ⟨q, b, hq, e⟩
      refine ⟨q, b, ⟨hq, fun e2 => ?_⟩, e⟩
      have := hU.uni q p hq hp e2
      subst this; exact hk id b e
    · rintro ⟨q, b, hq, e⟩; exact ⟨q, b, hq.1, e⟩
  have sameF : ∀ id, (∀ c b, p.kd ≠ .fill id c b) → FU U id = FU (fun q => U q ∧ q.i ≠ p.i) id := by
    intro id hk
    by_cases hex : ∃ c q b, U q ∧ q.kd = .fill id c b
    · obtain ⟨c, q, b, hq, e⟩ := hex
      have hne : q.i ≠ p.i := by
        intro e2
        have := hU.uni q p hq hp e2
        subst this; exact hk c b e
      rw [FU_some hU.fiu hq e, FU_some (U := fun q => U q ∧ q.i ≠ p.i) (fun p q id c b c' b' h1 h2 => hU.fiu p q id c b c' b' h1.1 h2.1) ⟨hq, hne⟩ e]
    · rw [FU_none fun q c b hq e => hex ⟨c, q, b, hq, e⟩, FU_none fun q c b hq e => hex ⟨c, q, b, hq.1, e⟩]
  have rest1 : (∀ id b, (∃ q c b1, U q ∧ q.kd = .make id b ∧ p.kd = .fill id c b1) → False) → UOk P G ops (Region.before ops) sz reads allocs tm st0 st (fun q => U q ∧ q.i ≠ p.i) := by
    intro hno
    refine ⟨fun q hq => hU.ok q hq.1, fun q r hq hr => hU.uni q r hq.1 hr.1, fun q r id b b' hq hr => hU.mku q r id b b' hq.1 hr.1, fun q r id c b c' b' hq hr => hU.fiu q r id c b c' b' hq.1 hr.1, fun q id b hq e => ?_, hU.al⟩
    obtain ⟨h1, h2⟩ := hU.mkb q id b hq.1 e
    refine ⟨fun h => h1 fun r c b1 hr e2 => ?_, fun r c b1 hr => h2 r c b1 hr.1⟩
    by_cases e3 : r.i = p.i
    · have := hU.uni r p hr hp e3
      subst this
      exact hno id b ⟨q, c, b1, hq.1, e, e2⟩
    · exact h r c b1 ⟨hr, e3⟩ e2
  -- a value handed back, all else as it was
  have value : (∀ id b, p.kd ≠ .make id b) → (∀ id c b, p.kd ≠ .fill id c b) → p.kd ≠ .skip → wantedK ops p.o tm = true → (∃ V, (execOp mf.eval p.o).run P w = .ok (.value V) w ∧ VR μ p.v V) →
      ∃ μ' w' mf', Mid G N st0 μ0 w0 (XU fun q => U q ∧ q.i ≠ p.i) (hvU (fun q => U q ∧ q.i ≠ p.i) st) st.next μ' w' ∧ Steps P (lone mf cs w) (lone mf' cs w') ∧ FRS μ' (fun q => U q ∧ q.i ≠ p.i) fn tm sz defs rnd dfd mf' ∧ InR ops rest k mf' ∧ Le μ μ' ∧
        UOk P G ops (Region.before ops) sz reads allocs tm st0 st (fun q => U q ∧ q.i ≠ p.i) := by
    rintro hk hkf hns hw ⟨V, h1, h2⟩
    obtain ⟨h3, h4⟩ := hfin μ V hF h2
    refine ⟨μ, w, mf.finish V, hmid.congr (sameX hk) (fun id => ?_), .one (step_lone_go ?_), h3, h4, Le.refl μ, rest1 fun id b ⟨_, c, b1, _, _, e⟩ => hkf id c b1 e⟩
    · unfold hvU
      have h5 := sameX hk id
      have h6 := sameF id (hkf id)
      by_cases hX : XU U id
      · rw [if_pos hX, if_pos (h5.1 hX)]
      · rw [if_neg hX, if_neg (fun h => hX (h5.2 h)), h6]
    · rw [st_op hm ht hok.op (by rw [hwant, hw]) (.inr (hnodefer (hok.soft.2.1 hns)))]
      exact st_value h1
  cases hkd : p.kd with
  | skip =>
    rw [hkd] at hdoes
    obtain ⟨hw, hv⟩ := hdoes
    obtain ⟨h3, h4⟩ := hfin μ undef hF (by rw [hv]; simp [VR, aundef, undef])
    have hk1 : ∀ id b, p.kd ≠ .make id b := by rw [hkd]; intro id b e; cases e
    have hk2 : ∀ id c b, p.kd ≠ .fill id c b := by rw [hkd]; intro id c b e; cases e
    refine ⟨μ, w, mf.finish undef, hmid.congr (sameX hk1) (fun id => ?_), .one (st_op_skip hm ht ?_), h3, h4, Le.refl μ, rest1 fun id b ⟨_, c, b1, _, _, e⟩ => hk2 id c b1 e⟩
    · unfold hvU
      have h5 := sameX hk1 id
      have h6 := sameF id (hk2 id)
      by_cases hX : XU U id
      · rw [if_pos hX, if_pos (h5.1 hX)]
      · rw [if_neg hX, if_neg (fun h => hX (h5.2 h)), h6]
    · rw [hok.op]; simp only [Option.map_some, Option.getD_some]; rw [hwant, hw]
  | quiet =>
    rw [hkd] at hdoes
    obtain ⟨hw, hq⟩ := hdoes
    exact value (by rw [hkd]; intro id b e; cases e) (by rw [hkd]; intro id c b e; cases e) (by rw [hkd]; intro e; cases e) hw (hq N μ w mf.eval hmid.rel.glob hmid.rel.base (hx μ hF))
  | read =>
    rw [hkd] at hdoes
    obtain ⟨hw, hq⟩ := hdoes
    refine value (by rw [hkd]; intro id b e; cases e) (by rw [hkd]; intro id c b e; cases e) (by rw [hkd]; intro e; cases e) hw (hq N μ w mf.eval (hmid.rel.sub fun id b hb _ => ?_) (hx μ hF))
    obtain ⟨hn, hb⟩ := seeUn_some hb
    have hX : ¬ XU U id := by
      rintro ⟨q, b', hq', e⟩
      have hne : q.i ≠ p.i := by
        intro e2
        have := hU.uni q p hq' hp e2
        subst this; rw [hkd] at e; cases e
      have hqd := (hU.ok q hq').does
      unfold Does at hqd
      rw [e] at hqd
      exact hn ⟨q.i, hqd.2.1, hready q hq' hne⟩
    have hFn : FU U id = none := by
      refine FU_none fun q c b' hq' e => ?_
      have hne : q.i ≠ p.i := by
        intro e2
        have := hU.uni q p hq' hp e2
        subst this; rw [hkd] at e; cases e
      have hqd := (hU.ok q hq').does
      unfold Does at hqd
      rw [e] at hqd
      exact hn ⟨q.i, hqd.2.1, hready q hq' hne⟩
    rw [hvU_st hX hFn]; exact hb
  | make id b =>
    rw [hkd] at hdoes
    obtain ⟨hw, hin, hop, hq⟩ := hdoes
    have hX : XU U id := ⟨p, b, hp, hkd⟩
    obtain ⟨V, ob, h1, h2, h3⟩ := hq N μ w mf.eval hmid.rel.glob hmid.rel.base (hx μ hF) (hmid.pend id hX)
    have hle : Le μ (μ.new id w.heap.size 0) := Mu.le_new (hmid.pend id hX)
    obtain ⟨h4, h5⟩ := hfin _ V (hF.mono hle) h3
    have hids := hU.al _ hin
    obtain ⟨hm1, hm2⟩ := hU.mkb p id b hp hkd
    have hkf : ∀ id c b, p.kd ≠ .fill id c b := by rw [hkd]; intro id c b e; cases e
    have hX' : ¬ XU (fun q => U q ∧ q.i ≠ p.i) id := by
      rintro ⟨q, b', ⟨hq', hne⟩, e⟩
      have := hU.mku q p id b' b hq' hp e hkd
      subst this; exact hne rfl
    -- the block as it is there now
    have hb' : ∃ b', hvU (fun q => U q ∧ q.i ≠ p.i) st id = some b' ∧ b'.open = true ∧ BR (μ.new id w.heap.size 0) id b' (some ob) := by
      by_cases hex : ∃ c q b1, U q ∧ q.kd = .fill id c b1
      · obtain ⟨c, q, b1, hq', e⟩ := hex
        have hbe := hm2 q c b1 hq' e
        refine ⟨.map [] c, hvU_F hX' (by rw [← sameF id (hkf id)]; exact FU_some hU.fiu hq' e), rfl, by rw [← hbe]; exact h2⟩
      · obtain ⟨g, hg⟩ := hm1 fun q c b1 hq' e => hex ⟨c, q, b1, hq', e⟩
        refine ⟨b.regroup g, ?_, by rw [Blk.regroup_open]; exact hop, h2.regroup⟩
        rw [hvU_st hX' (by rw [← sameF id (hkf id)]; exact FU_none fun q c b1 hq' e => hex ⟨c, q, b1, hq', e⟩)]
        exact hg
    obtain ⟨b', hb1, hb2, hb3⟩ := hb'
    refine ⟨μ.new id w.heap.size 0, w.alloc ob, mf.finish V, (hmid.make hX hids.1 hids.2 hb2 hb3).congr (fun id' => ?_) (fun id' => ?_), .one (step_lone_go ?_), h4, h5, hle, rest1 fun id b ⟨_, c, b1, _, _, e⟩ => hkf id c b1 e⟩
    · constructor
      · rintro ⟨⟨q, b'', hq', e⟩, hne⟩
        refine ⟨q, b'', ⟨hq', fun e2 => ?_⟩, e⟩
        have := hU.uni q p hq' hp e2
        subst this; rw [hkd] at e; cases e; exact hne rfl
      · rintro ⟨q, b'', ⟨hq', hne⟩, e⟩
        refine ⟨⟨q, b'', hq', e⟩, ?_⟩
        rintro rfl
        exact hX' ⟨q, b'', ⟨hq', hne⟩, e⟩
    · by_cases e : id' = id
      · subst e; simp only [if_true]; exact hb1.symm
      · simp only [e, if_false]
        unfold hvU
        rw [← sameF id' (hkf id')]
        have h5 : XU U id' ↔ XU (fun q => U q ∧ q.i ≠ p.i) id' := by
          constructor
          · rintro ⟨q, b'', hq', e'⟩
            refine ⟨q, b'', ⟨hq', fun e2 => ?_⟩, e'⟩
            have := hU.uni q p hq' hp e2
            subst this; rw [hkd] at e'; cases e'; exact e rfl
          · rintro ⟨q, b'', hq', e'⟩; exact ⟨q, b'', hq'.1, e'⟩
        by_cases hXX : XU U id'
        · rw [if_pos hXX, if_pos (h5.1 hXX)]
        · rw [if_neg hXX, if_neg (fun h => hXX (h5.2 h))]
    · rw [st_op hm ht hok.op (by rw [hwant, hw]) (.inr (hnodefer (hok.soft.2.1 (by rw [hkd]; intro e; cases e))))]
      exact st_value h1
  | fill id c b =>
    rw [hkd] at hdoes
    obtain ⟨hw, hin, hst, hne, ⟨t, htm, htv⟩, hq⟩ := hdoes
    have hxx := hx μ hF
    obtain ⟨r, hr, _⟩ : ∃ r, μ.b id = some r ∧ mf.eval (.tmp t) = .map (some r) := by
      have := hxx _ htm
      simp only [OpR, htv, Option.getD_some] at this
      exact this
    have hX : ¬ XU U id := fun h => by rw [hmid.pend id h] at hr; cases hr
    have hFs := FU_some hU.fiu hp hkd
    have hseen : hvU U st id = some (.map [] c) := hvU_F hX hFs
    obtain ⟨r', hr', hN, hlt, hbr⟩ := hmid.rel.blk id _ hseen rfl
    rw [hr] at hr'; cases hr'
    obtain ⟨w', h1, h2, h3, h4, h5, h6⟩ := hq N μ w mf.eval r hmid.rel.glob hmid.rel.base hxx hr hN hlt hbr
    have hop1 : b.open = true := by obtain ⟨e, es, c', rfl⟩ := hne; rfl
    have hk1 : ∀ id b, p.kd ≠ .make id b := by rw [hkd]; intro id b e; cases e
    have hmid' := (hmid.turn hseen rfl rfl hop1 hr h2 h3 h4 h5 h6).congr (X' := XU fun q => U q ∧ q.i ≠ p.i) (hv' := hvU (fun q => U q ∧ q.i ≠ p.i) st) (sameX hk1) (fun id' => by
      by_cases e : id' = id
      · subst e
        simp only [if_true]
        rw [hvU_st (fun h => hX ((sameX hk1 id').2 h)) (FU_none fun q c' b' hq' e' => ?_), hst]
        have := hU.fiu q p id' c' b' c b hq'.1 hp e' hkd
        subst this; exact hq'.2 rfl
      · simp only [e, if_false]
        have h7 := sameX hk1 id'
        have h8 := sameF id' (by rw [hkd]; intro c' b' e'; cases e'; exact e rfl)
        unfold hvU
        rw [← h8]
        by_cases hXX : XU U id'
        · rw [if_pos hXX, if_pos (h7.1 hXX)]
        · rw [if_neg hXX, if_neg (fun h => hXX (h7.2 h))])
    have hrest := rest1 fun id2 b2 ⟨q, c2, b1, hq', e1, e2⟩ => by
      rw [hkd] at e2; cases e2
      exact hX ⟨q, b2, hq', e1⟩
    have hstep := st_op (P := P) hm ht hok.op (w := w) (cs := cs) (by rw [hwant, hw]) (.inr (hnodefer (hok.soft.2.1 (by rw [hkd]; intro e; cases e))))
    rcases h1 with ⟨V, h1, hv⟩ | ⟨h1, hv⟩
    · obtain ⟨h9, h10⟩ := hfin μ V hF hv
      exact ⟨μ, w', mf.finish V, hmid', .one (step_lone_go (by rw [hstep]; exact st_value h1)), h9, h10, Le.refl μ, hrest⟩
    · obtain ⟨h9, h10⟩ := hfin μ undef hF (by rw [hv]; simp [VR, aundef, undef])
      exact ⟨μ, w', mf.finish undef, hmid', .one (step_lone_go (by rw [hstep]; exact st_skipped h1)), h9, h10, Le.refl μ, hrest⟩

/-- Some that were put off are done, one behind the other. -/
theorem drain {ops : Array Oper} (hstr : Strict ops (Region.before ops)) {sz : Nat} {reads : List (Nat × AV)} {allocs : List (Nat × Nat)} {tm : T AV} {st : St} {k : List Item}
    {fn : FuncId} {defs : List DItem} {rnd : Option Nat} {dfd : Bool} {cs : List Frame} :
    ∀ (α β : List Nat) (U : Pe → Prop) (mf : Frame) (μ : Mu) (w : World), UOk P G ops (Region.before ops) sz reads allocs tm st0 st U →
      (α ++ β).Nodup → (α ++ β).Pairwise (fun j i => ((Region.before ops).getD j 0).testBit i = false) → (∀ x ∈ α, ∃ p, U p ∧ p.i = x) → (∀ p, U p → p.i ∈ α ++ β) →
      Mid G N st0 μ0 w0 (XU U) (hvU U st) st.next μ w → FRS μ U fn tm sz defs rnd dfd mf → InR ops (α ++ β) k mf →
      ∃ μ' w' mf', Mid G N st0 μ0 w0 (XU fun q => U q ∧ q.i ∉ α) (hvU (fun q => U q ∧ q.i ∉ α) st) st.next μ' w' ∧ Steps P (lone mf cs w) (lone mf' cs w') ∧ FRS μ' (fun q => U q ∧ q.i ∉ α) fn tm sz defs rnd dfd mf' ∧ InR ops β k mf' ∧ Le μ μ' ∧
        UOk P G ops (Region.before ops) sz reads allocs tm st0 st (fun q => U q ∧ q.i ∉ α)
  | [], β, U, mf, μ, w, hU, hn, hpw, hα, hin, hmid, hfr, hat => by
    have e : (fun q => U q ∧ q.i ∉ ([] : List Nat)) = U := by funext q; simp
    rw [e]
    exact ⟨μ, w, mf, hmid, Steps.refl _ _, hfr, hat, Le.refl μ, hU⟩
  | a :: α, β, U, mf, μ, w, hU, hn, hpw, hα, hin, hmid, hfr, hat => by
    obtain ⟨p, hp, rfl⟩ := hα a (by simp)
    rw [List.cons_append] at hn hpw hat
    obtain ⟨hn1, hn2⟩ := List.nodup_cons.1 hn
    obtain ⟨hp1, hp2⟩ := List.pairwise_cons.1 hpw
    obtain ⟨μ1, w1, mf1, h1, h2, h3, h4, h5, hU1⟩ := pend_step (P := P) (cs := cs) hstr hU hp (fun q hq hne => hp1 q.i (by
      have := hin q hq
      rw [List.cons_append] at this
      rcases List.mem_cons.1 this with h | h
      · exact absurd h hne
      · exact h)) hmid hfr hat
    obtain ⟨μ2, w2, mf2, h6, h7, h8, h9, h10, hU2⟩ := drain hstr α β (fun q => U q ∧ q.i ≠ p.i) mf1 μ1 w1 hU1 hn2 hp2
      (fun x hx => by
        obtain ⟨q, hq, rfl⟩ := hα x (by simp [hx])
        exact ⟨q, ⟨hq, fun e => hn1 (by rw [← e]; simp [hx])⟩, rfl⟩)
      (fun q hq => by
        have := hin q hq.1
        rw [List.cons_append] at this
        rcases List.mem_cons.1 this with h | h
        · exact absurd h hq.2
        · exact h) h1 h3 h4
    have e : (fun q => (U q ∧ q.i ≠ p.i) ∧ q.i ∉ α) = (fun q => U q ∧ q.i ∉ p.i :: α) := by
      funext q
      simp only [List.mem_cons, not_or, and_assoc, ne_eq]
    rw [e] at h6 h8 hU2
    exact ⟨μ2, w2, mf2, h6, h2.trans h7, h8, h9, h5.trans h10, hU2⟩
end
end Go.Shd
/- A region that draws its order: whatever order is drawn. -/
namespace Go.Shd
noncomputable section
variable {G : Globals} {P : Program}

/-! ### Equality of shadow values -/
theorem beqL_of : ∀ {a b : List Nat}, beqL a b = true → a = b
  | [], [], _ => rfl
  | [], _ :: _, h => by simp [beqL] at h
  | _ :: _, [], h => by simp [beqL] at h
  | x :: a, y :: b, h => by
    simp only [beqL] at h
    split at h
    · rename_i hb; rw [Nat.eq_of_beq_eq_true hb, beqL_of h]
    · cases h

theorem intBeq_eq' {a b : Int} (h : intBeq a b = true) : a = b := by
  unfold intBeq at h
  split at h
  · rw [Nat.eq_of_beq_eq_true h]
  · rw [Nat.eq_of_beq_eq_true h]
  · cases h

mutual
theorem avBeq_eq : ∀ (a b : AV), avBeq a b = true → a = b := by
  intro a b h
  unfold avBeq at h
  split at h
  case h_1 =>
    split at h
    · rename_i hk; rw [of_decide_eq_true hk, intBeq_eq' h]
    · cases h
  case h_2 => rw [eq_of_beq h]
  case h_8 => rw [beqL_of h]
  case h_9 =>
    split at h
    · rename_i hb; rw [Nat.eq_of_beq_eq_true hb, Nat.eq_of_beq_eq_true h]
    · cases h
  case h_10 =>
    split at h
    · rename_i hb; rw [Nat.eq_of_beq_eq_true hb, Nat.eq_of_beq_eq_true h]
    · cases h
  case h_11 =>
    split at h
    · rename_i h1 h2 h3 h4 h5
      rw [Nat.eq_of_beq_eq_true h1, Nat.eq_of_beq_eq_true h2, Nat.eq_of_beq_eq_true h3, Nat.eq_of_beq_eq_true h4, of_decide_eq_true h5]
    · cases h
  case h_12 => rw [Nat.eq_of_beq_eq_true h]
  case h_13 f a b f' a' b' =>
    split at h
    · rename_i h1 h2
      rw [Nat.eq_of_beq_eq_true h1, avsBeq_eq a a' h2, avsBeq_eq b b' h]
    · cases h
  case h_14 => rw [Nat.eq_of_beq_eq_true h]
  case h_15 t v t' v' =>
    split at h
    · rename_i h1; rw [Nat.eq_of_beq_eq_true h1, avBeq_eq v v' h]
    · cases h
  case h_16 a b => rw [avsBeq_eq a b h]
  case h_17 a b => rw [avsBeq_eq a b h]
  case h_18 =>
    split at h
    · rename_i h1 h2 h3 h4
      rw [Nat.eq_of_beq_eq_true h1, Nat.eq_of_beq_eq_true h2, Nat.eq_of_beq_eq_true h3, Nat.eq_of_beq_eq_true h4]
    · cases h
  all_goals first | rfl | (cases h; done)
theorem avsBeq_eq : ∀ (a b : List AV), avsBeq a b = true → a = b := by
  intro a b h
  unfold avsBeq at h
  split at h
  · rfl
  · rename_i x l y m
    split at h
    · rename_i h1; rw [avBeq_eq x y h1, avsBeq_eq l m h]
    · cases h
  · cases h
end

theorem again_read {bf : Array Nat} {allocs : List (Nat × Nat)} {tm : T AV} {i : Nat} {o : Oper} {h h' : T Blk} {g : T (Nat × List Nat)} {n : Nat} {S : List (Nat × Blk)} {K : ONext → St → Bool} {v : AV}
    (hS : ∀ id, (∃ b, (id, b) ∈ S) ↔ ∃ j, (j, id) ∈ allocs ∧ (bf.getD i 0).testBit j = false) (hl : Lock h h' (fun id => ∃ b, (id, b) ∈ S)) (hin : ∀ p ∈ S, h.get (key p.1) = some p.2 ∧ Plain g p.2)
    (hk : opK P G o tm ⟨h', g, n⟩ K = true) (hloud : (kindOf o.op).eff = false) (hw : Wf ⟨h, g, n⟩) (hK : ∀ v' st', K (.val v') st' = true → st'.next = n ∧ v = v') : ReadS P G bf allocs i o tm ⟨h, g, n⟩ v := by
  have hw' : Wf ⟨h', g, n⟩ := hw.lock (st := ⟨h, g, n⟩) hl (fun id ⟨b, hb⟩ => ⟨b, (hin _ hb).1⟩)
  rcases (opK_soundX hk).2 with ⟨v', h1, h2⟩ | ⟨v', b, h1, _⟩ | h1
  · have := (hK _ _ h1).2
    subst this
    intro N μ w ρ hr hx
    refine h2 N μ w ρ hw' (hr.rel fun id b hb ho => ?_) hx
    have hnot : ¬ ∃ b, (id, b) ∈ S := fun hin' => by rw [(hl id).1 hin'] at hb; cases hb; cases ho
    rw [seeUn_of (fun ⟨j, h3, h4⟩ => hnot ((hS id).2 ⟨j, h3, h4⟩)), ← (hl id).2 hnot]; exact hb
  · have := (hK _ _ h1).1
    simp [St.push] at this
  · rw [h1] at hloud; cases hloud

theorem againK_true {ops : Array Oper} {bf : Array Nat} {bj : Nat} {allocs : List (Nat × Nat)} {tm : T AV} {h : T Blk} {g : T (Nat × List Nat)} {n : Nat} {go : Bool} :
    ∀ {reads : List (Nat × AV)}, againK P G ops bf bj allocs tm h g n go reads = true → go = true ∧ (Wf ⟨h, g, n⟩ → ∀ r ∈ reads, bj.testBit r.1 = false → ∀ o, ops[r.1]? = some o → (kindOf o.op).eff = false → ReadS P G bf allocs r.1 o tm ⟨h, g, n⟩ r.2)
  | [], hk => ⟨by simpa [againK] using hk, by simp⟩
  | (i, v) :: reads, hk => by
    simp only [againK] at hk
    split at hk
    · rename_i hb
      obtain ⟨h1, h2⟩ := againK_true hk
      refine ⟨h1, fun hw r hr hbr => ?_⟩
      rcases List.mem_cons.1 hr with rfl | hr
      · rw [hb] at hbr; cases hbr
      · exact h2 hw r hr hbr
    · rename_i hb
      split at hk
      case h_2 => cases hk
      rename_i o ho
      obtain ⟨h', S, h1, hS, hndS, hlk, hin⟩ := lockAll_true hk
      have h1 := h1
      have hK : ∀ (nx : ONext) (st' : St), (match nx, st' with
          | .val v', ⟨_, _, n'⟩ => match Nat.beq n' n, avBeq v v' with
            | true, true => againK P G ops bf bj allocs tm h g n go reads
            | _, _ => false
          | _, _ => false) = true → ∃ v', nx = .val v' ∧ st'.next = n ∧ v = v' ∧ againK P G ops bf bj allocs tm h g n go reads = true := by
        intro nx st' hh
        split at hh
        · split at hh
          · rename_i h3 h4
            exact ⟨_, rfl, Nat.eq_of_beq_eq_true h3, avBeq_eq _ _ h4, hh⟩
          · cases hh
        · cases hh
      have hrest : againK P G ops bf bj allocs tm h g n go reads = true := by
        obtain ⟨nx, st', h2, _⟩ := opK_sound h1
        obtain ⟨_, _, _, _, h3⟩ := hK nx st' h2
        exact h3
      obtain ⟨h5, h6⟩ := againK_true hrest
      refine ⟨h5, fun hw r hr hbr o' ho' hloud => ?_⟩
      rcases List.mem_cons.1 hr with rfl | hr
      · have ho' : ops[i]? = some o' := ho'
        rw [ho] at ho'; cases ho'
        exact again_read hS hlk hin h1 hloud hw (fun v' st' hh => by
          obtain ⟨v2, e, h7, h8, _⟩ := hK (.val v') st' hh
          cases e; exact ⟨h7, h8⟩)
      · exact h6 hw r hr hbr o' ho' hloud

/-! ### What the run of a drawn region says -/
def DrawnS (P : Program) (G : Globals) (ops : Array Oper) (fn : FuncId) (sz : Nat) (rnd : Option Nat) (dfd : Bool) (k : List Item) (go : Mv → St → Bool) (π : List Nat) (reads : List (Nat × AV)) (allocs : List (Nat × Nat)) (m : Mv) (st : St) : Prop :=
  ∃ m' st', go m' st' = true ∧ UpOk m.up m.recd m'.up m'.recd ∧ st.next ≤ st'.next ∧ (Wf st → Wf st') ∧
    ∀ (U : Pe → Prop) (σ : List Nat) N st0 μ0 w0 μ w mf cs0 cs, Wf st → st0.next ≤ st.next →
      Fresh μ0 st0.next st'.next → Mid G N st0 μ0 w0 (XU U) (hvU U st) st.next μ w → UOk P G ops (Region.before ops) sz reads allocs m.tm st0 st U →
      (∀ p, U p → ∀ i ∈ π, ((Region.before ops).getD p.i 0).testBit i = false) → (∀ p, U p → p.i ∉ π) →
      σ.Nodup → σ.Pairwise (fun j i => ((Region.before ops).getD j 0).testBit i = false) → (∀ x, x ∈ σ ↔ x ∈ π ∨ ∃ p, U p ∧ p.i = x) →
      FRS μ U fn m.tm sz m.defs rnd dfd mf → InR ops σ k mf → CsR μ dfd m.up m.recd cs0 cs → (rnd ≠ none → cs0 ≠ []) →
      ∃ μ' w' mf' cs', Mid G N st0 μ0 w0 (fun _ => False) (view st') st'.next μ' w' ∧ Steps P (lone mf cs w) (lone mf' cs' w') ∧ FR0 μ' fn m'.tm sz m'.defs rnd dfd mf' ∧ mf'.mode = .run ∧ mf'.todo = k ∧ CsR μ' dfd m'.up m'.recd cs0 cs'

theorem drawn_end {ops : Array Oper} (hstr : Strict ops (Region.before ops)) {fn : FuncId} {sz : Nat} {rnd : Option Nat} {dfd : Bool} {k : List Item} {go : Mv → St → Bool} {reads : List (Nat × AV)} {allocs : List (Nat × Nat)} {m : Mv} {st : St} (h : go m st = true) :
    DrawnS P G ops fn sz rnd dfd k go [] reads allocs m st := by
  refine ⟨m, st, h, UpOk.refl _ _, Nat.le_refl _, fun h => h, fun U σ N st0 μ0 w0 μ w mf cs0 cs hw hn0 hf hmid hU hbf hni hn hpw hσ hfr hat hcs hne => ?_⟩
  obtain ⟨μ1, w1, mf1, h1, h2, h3, h4, h5, _⟩ := drain (P := P) (cs := cs) hstr σ [] U mf μ w hU (by simpa using hn) (by simpa using hpw)
    (fun x hx => by
      rcases (hσ x).1 hx with h | h
      · cases h
      · exact h)
    (fun p hp => by simpa using (hσ p.i).2 (.inr ⟨p, hp, rfl⟩)) hmid hfr (by simpa using hat)
  have hno : ∀ p, ¬ (U p ∧ p.i ∉ σ) := fun p ⟨hp, hns⟩ => hns ((hσ p.i).2 (.inr ⟨p, hp, rfl⟩))
  have hF := h3.all hno
  refine ⟨μ1, w1, { mf1 with todo := k }, cs, h1.congr (fun id => ⟨fun ⟨p, b, hp, _⟩ => hno p hp, fun h => h.elim⟩) (fun id => hvU_st (fun ⟨p, b, hp, _⟩ => hno p hp) (FU_none fun p c b hp => absurd hp (hno p))), h2.trans (.one (st_region_end h4.1 h4.2)), ⟨hF.hfn, hF.htm, hF.hdefs, hF.hkind, hF.hrnd, hF.plain⟩, h4.1, rfl, hcs.mono h5⟩

theorem Blk.regroup_self {b : Blk} {n : Nat} (h : ∀ g, b.grp? = some g → g = n) : b.regroup n = b := by
  cases b with
  | cells cs e fz g cap => have := h g rfl; subst this; rfl
  | _ => rfl

/-- What one more that is put off turns of the state. -/
inductive OffCase (P : Program) (G : Globals) (ops : Array Oper) (reads : List (Nat × AV)) (p : Pe) (tm : T AV) (allocs allocs' : List (Nat × Nat)) (st st1 : St) : Prop where
  | calm (ha : allocs' = allocs) (hs : st1 = st) (h1 : ∀ id b, p.kd ≠ .make id b) (h2 : ∀ id c b, p.kd ≠ .fill id c b)
  | make (b : Blk) (ha : allocs' = (p.i, st.next) :: allocs) (hs : st1 = st.push b) (ho : b.open = true) (hg : ∀ g, b.grp? = some g → g = st.next) (hk : p.kd = .make st.next b)
  | fill (id c c' : Nat) (e : AEntry) (es : List AEntry) (ha : allocs' = (p.i, id) :: allocs) (hs : st1 = st.setB id (some (.map (e :: es) c'))) (hb : st.heap.get (key id) = some (.map [] c)) (hev : ∃ j, (j, id) ∈ allocs)
      (hk : p.kd = .fill id c (.map (e :: es) c')) (hr : Wf st1 → ∀ r ∈ reads, ∀ o, ops[r.1]? = some o → (kindOf o.op).eff = false → ReadS P G (Region.before ops) allocs' r.1 o (tset p.o.dst p.v tm) st1 r.2)

/-- One more is put off. -/
theorem put_off {ops : Array Oper} (hstr : Strict ops (Region.before ops)) {fn : FuncId} {sz : Nat} {rnd : Option Nat} {dfd : Bool} {k : List Item} {go : Mv → St → Bool} {π : List Nat} {reads reads' : List (Nat × AV)} {allocs allocs' : List (Nat × Nat)}
    {tm : T AV} {defs : List DItem} {up : Option AV} {recd : Bool} {st st1 : St} {p : Pe} (hop : ops[p.i]? = some p.o) (hsoft : loudU p.o = false ∧ (p.kd ≠ .skip → kindOf p.o.op ≠ .loud) ∧ (p.kd = .read → (kindOf p.o.op).eff = false)) (hlt : ∀ d, p.o.dst = some d → d < sz)
    (hreads : ∀ x ∈ reads, x ∈ reads') (hagain : p.kd = .read → (p.i, p.v) ∈ reads')
    (hcase : OffCase P G ops reads p tm allocs allocs' st st1)
    (hdoes : Wf st → Does P G ops (Region.before ops) allocs' tm st1 p) (hπ : (p.i :: π).Nodup) (hpw : (p.i :: π).Pairwise (fun j i => ((Region.before ops).getD j 0).testBit i = false))
    (h : DrawnS P G ops fn sz rnd dfd k go π reads' allocs' ⟨tset p.o.dst p.v tm, defs, up, recd⟩ st1) : DrawnS P G ops fn sz rnd dfd k go (p.i :: π) reads allocs ⟨tm, defs, up, recd⟩ st := by
  obtain ⟨m', st', hk, hu, hn, hwf, h⟩ := h
  have hn1 : st.next ≤ st1.next := by
    rcases hcase with ⟨_, rfl, _⟩ | ⟨b, _, rfl, _⟩ | ⟨id, c, c', e, es, _, rfl, _⟩
    · exact Nat.le_refl _
    · simp [St.push]
    · exact Nat.le_refl _
  have hwf1 : Wf st → Wf st1 := by
    intro hw
    rcases hcase with ⟨_, rfl, _⟩ | ⟨b, _, rfl, _, hg, _⟩ | ⟨id, c, c', e, es, _, rfl, hb, _⟩
    · exact hw
    · exact hw.push b hg
    · exact hw.setB hb _ (by intro b'' h; cases h; rfl)
  refine ⟨m', st', hk, hu, by omega, fun hw => hwf (hwf1 hw), fun U σ N st0 μ0 w0 μ w mf cs0 cs hw hn0 hf hmid hU hbf hni hnσ hpwσ hσ hfr hat hcs hne => ?_⟩
  obtain ⟨hπ1, hπ2⟩ := List.nodup_cons.1 hπ
  obtain ⟨hpw1, hpw2⟩ := List.pairwise_cons.1 hpw
  have hdst : ∀ q, U q → ∀ d, p.o.dst = some d → d ∉ looksK ops q.o ∧ q.o.dst ≠ some d := by
    intro q hq d hd
    have hne : p.i ≠ q.i := fun e => hni q hq (by rw [← e]; simp)
    refine ⟨fun hl => ?_, fun hqd => ?_⟩
    · rcases hstr.look p.i p.o d q.i q.o hop hd (hU.ok q hq).op hne hl with h1 | ⟨_, h1⟩
      · rw [hbf q hq p.i (by simp)] at h1; cases h1
      · rw [hsoft.1] at h1; cases h1
    · rcases hstr.dst p.i p.o d q.i q.o hop hd (hU.ok q hq).op hne hqd with ⟨h1, _⟩ | ⟨_, h1⟩
      · rw [hbf q hq p.i (by simp)] at h1; cases h1
      · rw [hsoft.1] at h1; cases h1
  have hown : ∀ t ∈ looksK ops p.o, tm.get (key t) = (tset p.o.dst p.v tm).get (key t) := by
    intro t htl
    refine (tset_get fun hd => ?_).symm
    rcases hstr.own p.i p.o t hop hd with h1 | h1
    · rw [hsoft.1] at h1; cases h1
    · exact h1 htl
  have hnew : PendOk P G ops (Region.before ops) sz reads' allocs' (tset p.o.dst p.v tm) st1 p :=
    ⟨hop, hsoft, hlt, fun d hd => by rw [hd]; exact tset_same, (hdoes hw).congr hown, hagain⟩
  -- a map that is being filled now was not filled before
  have hnofill : ∀ id c b, p.kd = .fill id c b → ∀ q c2 b2, U q → q.kd ≠ .fill id c2 b2 := by
    intro id c b hkp q c2 b2 hq e
    rcases hcase with ⟨_, _, _, h2⟩ | ⟨_, _, _, _, _, hk⟩ | ⟨id', c', c'', e', es, _, _, hb, _, hk, _⟩
    · exact h2 id c b hkp
    · rw [hkp] at hk; cases hk
    · rw [hkp] at hk; cases hk
      have hqd := (hU.ok q hq).does
      unfold Does at hqd
      rw [e] at hqd
      obtain ⟨_, _, h3, ⟨e2, es2, c3, rfl⟩, _⟩ := hqd
      rw [hb] at h3; cases h3
  have hold : ∀ q, U q → PendOk P G ops (Region.before ops) sz reads' allocs' (tset p.o.dst p.v tm) st1 q := by
    intro q hq
    have hqo := hU.ok q hq
    have hl : ∀ t ∈ looksK ops q.o, tm.get (key t) = (tset p.o.dst p.v tm).get (key t) := fun t ht => (tset_get fun hd => (hdst q hq t hd).1 ht).symm
    refine ⟨hqo.op, hqo.soft, hqo.lt, fun d hd => ?_, ?_, fun hr => hreads _ (hqo.again hr)⟩
    · rw [tset_get fun hpd => (hdst q hq d hpd).2 hd]; exact hqo.val d hd
    · have hd := hqo.does.congr hl
      have hd0 := hqo.does
      unfold Does at hd hd0 ⊢
      cases hkd : q.kd <;> rw [hkd] at hd hd0 <;> simp only at hd hd0 ⊢
      · exact hd
      · exact hd
      · refine ⟨hd.1, ?_⟩
        rcases hcase with ⟨rfl, rfl, _⟩ | ⟨b, rfl, rfl, _⟩ | ⟨id, c, c', e, es, rfl, rfl, hb, _, _, hr⟩
        · exact hd.2
        · intro N μ w ρ hr hx
          refine hd.2 N μ w ρ (hr.sub fun id b' hb' _ => ?_) hx
          obtain ⟨hn', hb'⟩ := seeUn_some hb'
          have hlt := hw.lt id b' hb'
          rw [seeUn_of ?_]
          · simp only [St.push, T.get_set]
            rw [if_neg (by omega)]; exact hb'
          · rintro ⟨j, hj, hjb⟩
            rcases List.mem_cons.1 hj with e | hj
            · cases e; exact Nat.lt_irrefl _ hlt
            · exact hn' ⟨j, hj, hjb⟩
        · exact hr (hwf1 hw) (q.i, q.v) (hqo.again hkd) q.o hqo.op (hqo.soft.2.2 hkd)
      · rename_i id b'
        refine ⟨hd.1, ?_, hd.2.2⟩
        rcases hcase with ⟨rfl, _⟩ | ⟨b, rfl, _⟩ | ⟨id2, c, c', e, es, rfl, _⟩
        · exact hd.2.1
        · exact List.mem_cons_of_mem _ hd.2.1
        · exact List.mem_cons_of_mem _ hd.2.1
      · rename_i id cc b'
        refine ⟨hd.1, ?_, ?_, hd.2.2.2⟩
        · rcases hcase with ⟨rfl, _⟩ | ⟨b, rfl, _⟩ | ⟨id2, c, c', e, es, rfl, _⟩
          · exact hd.2.1
          · exact List.mem_cons_of_mem _ hd.2.1
          · exact List.mem_cons_of_mem _ hd.2.1
        · have hg := hd.2.2.1
          rcases hcase with ⟨_, rfl, _⟩ | ⟨b, _, rfl, _⟩ | ⟨id2, c, c', e, es, _, rfl, _, _, hk2, _⟩
          · exact hg
          · have := (hU.al _ hd.2.1).2
            simp only [St.push, T.get_set]
            rw [if_neg (by simp only at this; omega)]; exact hg
          · simp only [St.setB, T.get_set]
            rw [if_neg (by rintro rfl; exact hnofill _ _ _ hk2 q _ _ hq hkd)]; exact hg
  have hXU : ∀ id, XU (fun q => U q ∨ q = p) id ↔ (XU U id ∨ ∃ b, p.kd = .make id b) := by
    intro id
    constructor
    · rintro ⟨q, b, hq | rfl, e⟩
      · exact .inl ⟨q, b, hq, e⟩
      · exact .inr ⟨b, e⟩
    · rintro (⟨q, b, hq, e⟩ | ⟨b, e⟩)
      · exact ⟨q, b, .inl hq, e⟩
      · exact ⟨p, b, .inr rfl, e⟩
  have hfiu' : ∀ q r id c b c' b', (U q ∨ q = p) → (U r ∨ r = p) → q.kd = .fill id c b → r.kd = .fill id c' b' → q = r := by
    rintro q r id c b c' b' (hq | rfl) (hr | rfl) e1 e2
    · exact hU.fiu q r id c b c' b' hq hr e1 e2
    · exact absurd e1 (hnofill _ _ _ e2 q _ _ hq)
    · exact absurd e2 (hnofill _ _ _ e1 r _ _ hr)
    · rfl
  have hFold : ∀ id, (∀ c b, p.kd ≠ .fill id c b) → FU (fun q => U q ∨ q = p) id = FU U id := by
    intro id hk'
    by_cases hex : ∃ c q b, U q ∧ q.kd = .fill id c b
    · obtain ⟨c, q, b, hq, e⟩ := hex
      rw [FU_some hU.fiu hq e, FU_some (U := fun q => U q ∨ q = p) hfiu' (.inl hq) e]
    · rw [FU_none (U := U) fun q c b hq e => hex ⟨c, q, b, hq, e⟩, FU_none fun q c b hq e => ?_]
      rcases hq with hq | rfl
      · exact hex ⟨c, q, b, hq, e⟩
      · exact hk' c b e
  have hmid1 : Mid G N st0 μ0 w0 (XU fun q => U q ∨ q = p) (hvU (fun q => U q ∨ q = p) st1) st1.next μ w := by
    rcases hcase with ⟨_, rfl, hk1, hk2⟩ | ⟨b, _, rfl, hop', _, hk'⟩ | ⟨id0, c, c', e, es, _, rfl, hb, _, hk', _⟩
    · refine hmid.congr (fun id => ?_) (fun id => ?_)
      · rw [hXU]; exact ⟨.inl, fun h => h.elim (fun h => h) (fun ⟨b, e⟩ => absurd e (hk1 id b))⟩
      · have h5 : XU U id ↔ XU (fun q => U q ∨ q = p) id := by rw [hXU]; exact ⟨.inl, fun h => h.elim (fun h => h) (fun ⟨b, e⟩ => absurd e (hk1 id b))⟩
        unfold hvU
        rw [hFold id (hk2 id)]
        by_cases hX : XU U id
        · rw [if_pos hX, if_pos (h5.1 hX)]
        · rw [if_neg hX, if_neg (fun h => hX (h5.2 h))]
    · have hfn : μ.b st.next = none := by
        rw [(hmid.ext st.next (.inr (Nat.le_refl _))).1]
        exact hf _ hn0 (by simp only [St.push] at hn; omega)
      have hnh : ∀ b, st.heap.get (key st.next) ≠ some b := fun b hb => Nat.lt_irrefl _ (hw.lt _ _ hb)
      have hnx : ¬ XU U st.next := by
        rintro ⟨q, b', hq, e⟩
        have hqd := (hU.ok q hq).does
        unfold Does at hqd
        rw [e] at hqd
        have := (hU.al _ hqd.2.1).2
        simp only at this; omega
      have hnf : FU U st.next = none := FU_none fun q c b' hq e => by
        have hqd := (hU.ok q hq).does
        unfold Does at hqd
        rw [e] at hqd
        have := (hU.al _ hqd.2.1).2
        simp only at this; omega
      have h0 : hvU U st st.next = none := by
        rw [hvU_st hnx hnf]
        cases hg : st.heap.get (key st.next) with
        | none => rfl
        | some b => exact absurd hg (hnh b)
      refine (hmid.lay hfn h0).congr (fun id => ?_) (fun id => ?_)
      · rw [hXU, hk']
        exact ⟨fun h => h.imp (fun h => h) (fun e => ⟨b, by rw [e]⟩), fun h => h.imp (fun h => h) (fun ⟨b', e⟩ => by cases e; rfl)⟩
      · by_cases e : id = st.next
        · subst e
          rw [h0, hvU_X ((hXU _).2 (.inr ⟨b, hk'⟩))]
        · have h5 : XU U id ↔ XU (fun q => U q ∨ q = p) id := by rw [hXU]; exact ⟨.inl, fun h => h.elim (fun h => h) (fun ⟨b', e'⟩ => by rw [hk'] at e'; cases e'; exact absurd rfl e)⟩
          unfold hvU
          rw [hFold id (by rw [hk']; intro c b' e'; cases e')]
          have h6 : (st.push b).heap.get (key id) = st.heap.get (key id) := by simp only [St.push, T.get_set, e, if_false]
          rw [h6]
          by_cases hX : XU U id
          · rw [if_pos hX, if_pos (h5.1 hX)]
          · rw [if_neg hX, if_neg (fun h => hX (h5.2 h))]
    · have h5 : ∀ id, XU U id ↔ XU (fun q => U q ∨ q = p) id := fun id => by rw [hXU]; exact ⟨.inl, fun h => h.elim (fun h => h) (fun ⟨b', e'⟩ => by rw [hk'] at e'; cases e')⟩
      refine hmid.congr h5 (fun id => ?_)
      by_cases e2 : id = id0
      · subst e2
        by_cases hX : XU U id
        · rw [hvU_X hX, hvU_X ((h5 id).1 hX)]
        · rw [hvU_st hX (FU_none fun q c2 b2 hq => hnofill _ _ _ hk' q c2 b2 hq), hb, hvU_F (fun h => hX ((h5 id).2 h)) (FU_some (U := fun q => U q ∨ q = p) hfiu' (.inr rfl) hk')]
      · unfold hvU
        rw [hFold id (by rw [hk']; intro c2 b' e'; cases e'; exact e2 rfl)]
        have h6 : (st.setB id0 (some (.map (e :: es) c'))).heap.get (key id) = st.heap.get (key id) := by simp only [St.setB, T.get_set, e2, if_false]
        rw [h6]
        by_cases hX : XU U id
        · rw [if_pos hX, if_pos ((h5 id).1 hX)]
        · rw [if_neg hX, if_neg (fun h => hX ((h5 id).2 h))]
  have hal' : ∀ a ∈ allocs', st0.next ≤ a.2 ∧ a.2 < st1.next := by
    rcases hcase with ⟨rfl, rfl, _⟩ | ⟨b, rfl, rfl, _⟩ | ⟨id0, c, c', e, es, rfl, rfl, _, ⟨j, hj⟩, _⟩
    · exact hU.al
    · intro a ha
      rcases List.mem_cons.1 ha with rfl | ha
      · simp only [St.push]; omega
      · have := hU.al a ha
        simp only [St.push]; omega
    · intro a ha
      rcases List.mem_cons.1 ha with rfl | ha
      · have := hU.al (j, id0) hj; exact this
      · exact hU.al a ha
  have hU1 : UOk P G ops (Region.before ops) sz reads' allocs' (tset p.o.dst p.v tm) st0 st1 (fun q => U q ∨ q = p) := by
    refine ⟨?_, ?_, ?_, hfiu', ?_, hal'⟩
    · rintro q (hq | rfl)
      · exact hold q hq
      · exact hnew
    · rintro q r (hq | rfl) (hr | rfl) e
      · exact hU.uni q r hq hr e
      · exact absurd (by rw [e]; simp) (hni q hq)
      · exact absurd (by rw [← e]; simp) (hni r hr)
      · rfl
    · have hfresh : ∀ q id b b', U q → q.kd = .make id b → p.kd ≠ .make id b' := by
        intro q id b b' hq e1 e2
        rcases hcase with ⟨_, _, h1, _⟩ | ⟨b2, _, _, _, _, hk⟩ | ⟨_, _, _, _, _, _, _, _, _, hk, _⟩
        · exact h1 _ _ e2
        · rw [e2] at hk; cases hk
          have hqd := (hU.ok q hq).does
          unfold Does at hqd
          rw [e1] at hqd
          have := (hU.al _ hqd.2.1).2
          simp only at this; omega
        · rw [e2] at hk; cases hk
      rintro q r id b b' (hq | rfl) (hr | rfl) e1 e2
      · exact hU.mku q r id b b' hq hr e1 e2
      · exact absurd e2 (hfresh q id b b' hq e1)
      · exact absurd e1 (hfresh r id b' b hr e2)
      · rfl
    · rintro q id b (hq | rfl) e1
      · obtain ⟨h1, h2⟩ := hU.mkb q id b hq e1
        have hqd := (hU.ok q hq).does
        unfold Does at hqd
        rw [e1] at hqd
        have hqlt := (hU.al _ hqd.2.1).2
        simp only at hqlt
        refine ⟨fun h3 => ?_, ?_⟩
        · obtain ⟨g, hg⟩ := h1 fun r c b1 hr => h3 r c b1 (.inl hr)
          rcases hcase with ⟨_, rfl, _⟩ | ⟨b2, _, rfl, _⟩ | ⟨id0, c, c', e, es, _, rfl, _, _, hk', _⟩
          · exact ⟨g, hg⟩
          · exact ⟨g, by simp only [St.push, T.get_set]; rw [if_neg (by omega)]; exact hg⟩
          · refine ⟨g, ?_⟩
            simp only [St.setB, T.get_set]
            rw [if_neg (by rintro rfl; exact h3 p _ _ (.inr rfl) hk')]; exact hg
        · rintro r c b1 (hr | rfl) e2
          · exact h2 r c b1 hr e2
          · rcases hcase with ⟨_, _, _, h4⟩ | ⟨_, _, _, _, _, hk'⟩ | ⟨id0, c2, c', e, es, _, _, hb, _, hk', _⟩
            · exact absurd e2 (h4 _ _ _)
            · rw [e2] at hk'; cases hk'
            · rw [e2] at hk'; cases hk'
              obtain ⟨g, hg⟩ := h1 fun r' c3 b3 hr' => hnofill _ _ _ e2 r' c3 b3 hr'
              rw [hb] at hg
              cases b <;> simp only [Blk.regroup, Option.some.injEq] at hg <;> first | (exact hg.symm) | cases hg
      · rcases hcase with ⟨_, _, h3, _⟩ | ⟨b2, _, rfl, _, hg, hk'⟩ | ⟨_, _, _, _, _, _, _, _, _, hk', _⟩
        · exact absurd e1 (h3 _ _)
        · rw [e1] at hk'; cases hk'
          refine ⟨fun _ => ⟨st.next, ?_⟩, ?_⟩
          · simp only [St.push, T.get_set, if_true]
            rw [Blk.regroup_self hg]
          · rintro r c b1 (hr | rfl) e2
            · have hqd := (hU.ok r hr).does
              unfold Does at hqd
              rw [e2] at hqd
              have := (hU.al _ hqd.2.1).2
              simp only at this; omega
            · rw [e1] at e2; cases e2
        · rw [e1] at hk'; cases hk'
  refine h (fun q => U q ∨ q = p) σ N st0 μ0 w0 μ w mf cs0 cs (hwf1 hw) (by omega) hf hmid1 hU1 ?_ ?_ hnσ hpwσ ?_ ?_ hat hcs hne
  · rintro q (hq | rfl) i hi
    · exact hbf q hq i (by simp [hi])
    · exact hpw1 i hi
  · rintro q (hq | rfl) hi
    · exact hni q hq (by simp [hi])
    · exact hπ1 hi
  · intro x
    rw [hσ]
    constructor
    · rintro (hx | ⟨q, hq, e⟩)
      · rcases List.mem_cons.1 hx with rfl | hx
        · exact .inr ⟨p, .inr rfl, rfl⟩
        · exact .inl hx
      · exact .inr ⟨q, .inl hq, e⟩
    · rintro (hx | ⟨q, hq | rfl, e⟩)
      · exact .inl (by simp [hx])
      · exact .inr ⟨q, hq, e⟩
      · exact .inl (by simp [← e])
  · obtain ⟨tm2, h1, h2⟩ := hfr
    refine ⟨tm2, h1, fun t ht => ?_⟩
    rw [tset_get (fun hd => ht p (.inr rfl) hd)]
    exact h2 t fun q hq => ht q (.inl hq)
end
end Go.Shd
/- A region that draws its order: all of it. -/
namespace Go.Shd
noncomputable section
variable {G : Globals} {P : Program}

theorem eff_false {o : Oper} (h : (kindOf o.op).eff = false) : kindOf o.op ≠ .loud := by
  intro e; rw [e] at h; cases h

theorem loudU_quiet {o : Oper} (h : kindOf o.op ≠ .loud) : loudU o = false := by
  unfold loudU
  split
  · rfl
  · split
    · rename_i hk; exact absurd hk h
    · rfl

theorem loudU_unwanted {ops : Array Oper} {o : Oper} {tm : T AV} (h : wantedK ops o tm = false) : loudU o = false := by
  unfold loudU
  unfold wantedK at h
  split
  · rfl
  · rename_i hg; rw [hg] at h; cases h

theorem rel_leaf {N : Nat} {μ : Mu} {w : World} {n : Nat} (h1 : GlobOk G N w) (h2 : N ≤ w.heap.size) : Rel G N μ ⟨.leaf, .leaf, n⟩ w :=
  ⟨fun id b h => by simp at h, fun id1 id2 b1 b2 r _ h => by simp at h, h1, h2⟩
theorem wf_leaf {n : Nat} : Wf ⟨.leaf, .leaf, n⟩ :=
  ⟨fun id b h => by simp at h, fun id b g h => by simp at h, fun id cs e fz g cap h => by simp at h, fun g _ => by simp⟩

theorem allAfter_true {bf : Array Nat} {i : Nat} : ∀ {l : List Nat}, allAfter bf i l = true → ∀ j ∈ l, (bf.getD j 0).testBit i = true
  | [], _, _, h => by cases h
  | x :: l, h, j, hj => by
    simp only [allAfter] at h
    split at h
    · rename_i hb
      rcases List.mem_cons.1 hj with rfl | hj
      · exact hb
      · exact allAfter_true h j hj
    · cases h

/-- A loud operation. -/
theorem drawn_loud {ihr : Run} (ih : RunOk P G ihr) {ops : Array Oper} (hstr : Strict ops (Region.before ops)) {fn : FuncId} {sz : Nat} {rnd : Option Nat} {dfd : Bool} {k : List Item} {go : Mv → St → Bool}
    {i : Nat} {o : Oper} {π : List Nat} {reads : List (Nat × AV)} {allocs : List (Nat × Nat)} {tm : T AV} {defs : List DItem} {up : Option AV} {recd : Bool} {h : T Blk} {g : T (Nat × List Nat)} {n : Nat}
    (hπ : (i :: π).Nodup) (hpw : (i :: π).Pairwise (fun j i => ((Region.before ops).getD j 0).testBit i = false)) (ho : ops[i]? = some o) (hw : wantedK ops o tm = true) (haft : allAfter (Region.before ops) i π = true) (hbd : badDefer rnd o = false)
    (hk : lockAll g ((Region.before ops).getD i 0) allocs h [] (fun h saved => opK P G o tm ⟨h, g, n⟩ fun nx st =>
              afterK P ihr sz rnd dfd ⟨tm, defs, up, recd⟩ o.dst nx st (fun m st => match m, st with
                | ⟨tm, defs, up, recd⟩, ⟨h, g, n⟩ => unlockAll saved h n fun h n =>
                  againK P G ops (Region.before ops) ((Region.before ops).getD i 0) allocs tm h g n (drawnK P G ihr sz rnd dfd ops (Region.before ops) π reads allocs ⟨tm, defs, up, recd⟩ ⟨h, g, n⟩ go) reads)
                (fun _ _ => false)) = true)
    (IH : ∀ (m : Mv) (st : St), drawnK P G ihr sz rnd dfd ops (Region.before ops) π reads allocs m st go = true → DrawnS P G ops fn sz rnd dfd k go π reads allocs m st) :
    DrawnS P G ops fn sz rnd dfd k go (i :: π) reads allocs ⟨tm, defs, up, recd⟩ ⟨h, g, n⟩ := by
  obtain ⟨hL, S, h1, hS, hndS, hlk, hin⟩ := lockAll_true hk
  clear hk
  simp only [List.append_nil] at h1
  obtain ⟨nx, st1, h2, hn1, hwf1, hop⟩ := opK_sound h1
  clear h1
  rcases afterK_core ih (fn := fn) h2 with ⟨v, defs', up', recd', st2, h3, hdlt, hu, hn2, hwf2, ha⟩ | ⟨v, st', hbad, _⟩
  case inr => cases hbad
  clear h2
  obtain ⟨h2', g2, n2⟩ := st2
  simp only at h3
  obtain ⟨h3', n3, q, h4, hn3, hother, hsame, hrng, hinj⟩ := unlockAll_true h3 (by rw [List.map_reverse]; exact List.pairwise_reverse.2 (hndS.imp fun h => h.symm)) (fun p hp => ⟨g, (hin p (by simpa using hp)).2⟩)
  clear h3
  obtain ⟨h5, hreads⟩ := againK_true h4
  clear h4
  have hunl : Unlk S ⟨h2', g2, n2⟩ ⟨h3', g2, n3⟩ q :=
    ⟨hn3, rfl, fun id hid => hother id (by simpa using hid), fun p hp => hsame p (by simpa using hp), fun p hp => hrng p (by simpa using hp), fun p hp p' hp' => hinj p (by simpa using hp) p' (by simpa using hp')⟩
  have hwfL : Wf ⟨h, g, n⟩ → Wf ⟨hL, g, n⟩ := fun hw => hw.lock (st := ⟨h, g, n⟩) hlk (fun id ⟨b, hb⟩ => ⟨b, (hin _ hb).1⟩)
  have hwf3 : Wf ⟨h, g, n⟩ → Wf ⟨h3', g2, n3⟩ := fun hw => hunl.wf (hwf2 (hwf1 (hwfL hw)))
  obtain ⟨m', st', hgo, hu', hn', hwf', hrest⟩ := IH _ _ h5
  have hnn1 : n ≤ st1.next := hn1
  have hnn2 : st1.next ≤ n2 := hn2
  have hnn' : n3 ≤ st'.next := hn'
  refine ⟨m', st', hgo, hu.trans hu', by simp only; omega, fun hw => hwf' (hwf3 hw), fun U σ N st0 μ0 w0 μ w mf cs0 cs hwf0 hn0 hf hmid hU hbf hni hnσ hpwσ hσ hfr hat hcs hne => ?_⟩
  have hn0 : st0.next ≤ n := hn0
  obtain ⟨hπ1, hπ2⟩ := List.nodup_cons.1 hπ
  obtain ⟨hpw1, hpw2⟩ := List.pairwise_cons.1 hpw
  have hbit := allAfter_true haft
  -- what comes ahead of it was put off
  have hmem : i ∈ σ := (hσ i).2 (.inl (by simp))
  obtain ⟨α, β, rfl⟩ := List.append_of_mem hmem
  have hpwα : ∀ a ∈ α, ((Region.before ops).getD a 0).testBit i = false := fun a ha => (List.pairwise_append.1 hpwσ).2.2 a ha i (by simp)
  have hiα : i ∉ α := fun hm => (List.nodup_append.1 hnσ).2.2 i hm i (by simp) rfl
  have hα : ∀ x ∈ α, ∃ p, U p ∧ p.i = x := by
    intro x hx
    rcases (hσ x).1 (by simp [hx]) with hx' | hx'
    · rcases List.mem_cons.1 hx' with rfl | hx'
      · exact absurd hx hiα
      · have := hbit x hx'
        rw [hpwα x hx] at this; cases this
    · exact hx'
  have hUσ : ∀ p, U p → p.i ∈ α ++ i :: β := fun p hp => (hσ p.i).2 (.inr ⟨p, hp, rfl⟩)
  obtain ⟨μa, wa, mfa, hmida, hsa, hfra, hata, hlea, hUa⟩ := drain (P := P) (cs := cs) hstr α (i :: β) U mf μ w hU hnσ hpwσ hα hUσ hmid hfr hat
  have hcsa := hcs.mono hlea
  -- what is put off still
  have hβ : ∀ p, U p ∧ p.i ∉ α → p.i ∈ β ∧ p.i ≠ i := by
    rintro p ⟨hp, hnα⟩
    have hne' : p.i ≠ i := fun e => hni p hp (by rw [e]; simp)
    have := hUσ p hp
    simp only [List.mem_append, List.mem_cons] at this
    rcases this with h | h | h
    · exact absurd h hnα
    · exact absurd h hne'
    · exact ⟨h, hne'⟩
  have hiβ : ∀ b ∈ β, ((Region.before ops).getD i 0).testBit b = false := fun b hb => (List.pairwise_cons.1 (List.pairwise_append.1 hpwσ).2.1).1 b hb
  have hev : ∀ id p, U p → p.i ∉ α → (p.i, id) ∈ allocs → ∃ b, (id, b) ∈ S := fun id p hp hn hin' => (hS id).2 ⟨p.i, hin', hiβ _ (hβ p ⟨hp, hn⟩).1⟩
  have hXS : ∀ id, XU (fun q => U q ∧ q.i ∉ α) id → ∃ b, (id, b) ∈ S := by
    rintro id ⟨p, b, hp, e⟩
    have hd := (hU.ok p hp.1).does
    unfold Does at hd
    rw [e] at hd
    exact hev id p hp.1 hp.2 hd.2.1
  have hFS : ∀ id c, FU (fun q => U q ∧ q.i ∉ α) id = some c → ∃ b, (id, b) ∈ S := by
    intro id c h
    obtain ⟨p, b, hp, e⟩ := FU_eq h
    have hd := (hU.ok p hp.1).does
    unfold Does at hd
    rw [e] at hd
    exact hev id p hp.1 hp.2 hd.2.1
  have hvout : ∀ id, (¬ ∃ b, (id, b) ∈ S) → hL.get (key id) = hvU (fun q => U q ∧ q.i ∉ α) ⟨h, g, n⟩ id := by
    intro id hn
    have hx : ¬ XU (fun q => U q ∧ q.i ∉ α) id := fun hx => hn (hXS id hx)
    have hfn : FU (fun q => U q ∧ q.i ∉ α) id = none := by
      cases hc : FU (fun q => U q ∧ q.i ∉ α) id with
      | none => rfl
      | some c => exact absurd (hFS id c hc) hn
    rw [hvU_st hx hfn]; exact (hlk id).2 hn
  obtain ⟨tm2, hF, htm2⟩ := hfra
  -- nobody put off writes what it looks at
  have hlook : ∀ t ∈ looksK ops o, tm.get (key t) = tm2.get (key t) := by
    intro t htl
    refine (htm2 t fun p hp hd => ?_).symm
    rcases hstr.look p.i p.o t i o (hU.ok p hp.1).op hd ho (hβ p hp).2 htl with h1 | ⟨_, h1⟩
    · rw [hiβ _ (hβ p hp).1] at h1; cases h1
    · rw [(hU.ok p hp.1).soft.1] at h1; cases h1
  have hdst : ∀ p, (U p ∧ p.i ∉ α) → ∀ d, o.dst = some d → d ∉ looksK ops p.o ∧ p.o.dst ≠ some d := by
    intro p hp d hd
    refine ⟨fun hl => ?_, fun hpd => ?_⟩
    · rcases hstr.look i o d p.i p.o ho hd (hU.ok p hp.1).op (hβ p hp).2.symm hl with h1 | ⟨h1, _⟩
      · rw [hbf p hp.1 i (by simp)] at h1; cases h1
      · rw [hiβ _ (hβ p hp).1] at h1; cases h1
    · rcases hstr.dst i o d p.i p.o ho hd (hU.ok p hp.1).op (hβ p hp).2.symm hpd with ⟨h1, _⟩ | ⟨h1, _⟩
      · rw [hbf p hp.1 i (by simp)] at h1; cases h1
      · rw [hiβ _ (hβ p hp).1] at h1; cases h1
  -- the operation itself
  have hfa : Fresh μa n st'.next := fun id h1 h2 => by
    rw [(hmida.ext id (.inr h1)).1]
    exact hf id (by omega) h2
  have hrelL : Rel G N μa ⟨hL, g, n⟩ wa := hmida.rel.rel fun id b hb hop => by
    have hnot : ¬ ∃ b, (id, b) ∈ S := fun hin' => by rw [(hlk id).1 hin'] at hb; cases hb; cases hop
    rw [← hvout id hnot]; exact hb
  obtain ⟨μ1, w1, hp1, hR⟩ := hop N μa wa mfa.eval (hwfL hwf0) (fun id h1 h2 => hfa id h1 (by omega)) hrelL
    (OpR_congr (tm := tm2) (fun t hm => (hlook t hm).symm) (fun x _ => hF.eval x))
  have hF1fr : Fresh μ1 st1.next st'.next := fun id h1 h2 => by
    have : n ≤ st1.next := hnn1
    rw [(hp1.ext id (.inr h1)).1]; exact hfa id (by omega) h2
  have hle1 : Le μa μ1 := hp1.le (fun id h1 h2 => hfa id h1 (by omega))
  have hatop : AtOp P ops o.dst β k (OutR μ1 st1 w1 nx) mfa cs wa := by
    refine ⟨hata.1, ⟨i, hata.2, by rw [ho]; rfl⟩, _, st_op hata.1 hata.2 ho ?_ ?_, hR⟩
    · rw [wanted_eq hF.htm, ← hw]; exact wantedK_congr fun t hm => (hlook t hm).symm
    · have hrr := hF.hrnd
      cases rnd with
      | none => exact .inl hrr
      | some l => exact .inr fun c hc => by simp [badDefer, hc] at hbd
  obtain ⟨μ2, w2, mf2, cs2, hp2, hs2, hF2, hat2, hcs2⟩ := ha N μ1 w1 wa mfa cs0 cs ops β k tm2 (hwf1 (hwfL hwf0)) (fun id h1 h2 => hF1fr id h1 (by simp only at h2; omega)) hp1.rel (hF.mono hle1) hatop (hcsa.mono hle1) hne
  have hp12 : Post G N ⟨hL, g, n⟩ μa wa ⟨h2', g2, n2⟩ μ2 w2 := hp1.trans hp2 hn1 hn2
  have hmid2 : Mid G N st0 μ0 w0 (XU fun q => U q ∧ q.i ∉ α) (hvU (fun q => U q ∧ q.i ∉ α) ⟨h3', g2, n3⟩) n3 μ2 w2 := by
    refine hmida.loud (S := fun id => ∃ b, (id, b) ∈ S) (hL := hL) (g := g) (st1 := ⟨h2', g2, n2⟩) ?_ hvout ?_ hXS (fun id h1 h2 => hfa id h1 (by simp only at h2; omega)) (by simp only; omega) hn3 hn0 hp12 ?_ ?_ ?_
    · intro id hid
      obtain ⟨b, hb⟩ := hid
      exact ⟨(hlk id).1 ⟨b, hb⟩, hwf0.lt id _ (hin _ hb).1⟩
    · rintro id b ⟨b0, hb0⟩ hv
      obtain ⟨hg0, hpl⟩ := hin _ hb0
      have hx : ¬ XU (fun q => U q ∧ q.i ∉ α) id := fun hx => by rw [hvU_X hx] at hv; cases hv
      cases hc : FU (fun q => U q ∧ q.i ∉ α) id with
      | some c =>
        rw [hvU_F hx hc] at hv; cases hv
        exact ⟨rfl, fun id2 b2 g' _ hg => by cases hg⟩
      | none =>
        rw [hvU_st hx hc] at hv
        have hv : h.get (key id) = some b := hv
        simp only at hg0
        rw [hg0] at hv; cases hv
        refine ⟨hpl.open, fun id2 b2 g' hb2 hg1 hg2 => ?_⟩
        rcases hpl with ⟨cs, el, fz, grp, cap, e2, hno⟩ | ⟨es, clock, e2⟩
        · rw [show b = Blk.cells cs el fz grp cap from e2] at hg1 hg0
          simp only [Blk.grp?, Option.some.injEq] at hg1
          subst hg1
          have := hwf0.grp id cs el fz grp cap hg0
          simp only at this hno
          rw [hno] at this
          -- the other is a block of the state's own
          have hx2 : ¬ XU (fun q => U q ∧ q.i ∉ α) id2 := fun hx => by rw [hvU_X hx] at hb2; cases hb2
          cases hc2 : FU (fun q => U q ∧ q.i ∉ α) id2 with
          | some c => rw [hvU_F hx2 hc2] at hb2; cases hb2; cases hg2
          | none =>
            rw [hvU_st hx2 hc2] at hb2
            exact this id2 b2 hb2 hg2
        · rw [show b = Blk.map es clock from e2] at hg1; cases hg1
    · intro id hn
      have hx : ¬ XU (fun q => U q ∧ q.i ∉ α) id := fun hx => hn (hXS id hx)
      have hfn : FU (fun q => U q ∧ q.i ∉ α) id = none := by
        cases hc : FU (fun q => U q ∧ q.i ∉ α) id with
        | none => rfl
        | some c => exact absurd (hFS id c hc) hn
      rw [hvU_st hx hfn]; exact hunl.other id hn
    · rintro id ⟨b0, hb0⟩ hv
      by_cases hx : XU (fun q => U q ∧ q.i ∉ α) id
      · exact hvU_X hx
      · exfalso
        cases hc : FU (fun q => U q ∧ q.i ∉ α) id with
        | some c => rw [hvU_F hx hc] at hv; cases hv
        | none =>
          rw [hvU_st hx hc] at hv
          have := (hin _ hb0).1
          simp only at this hv
          rw [this] at hv; cases hv
    · rintro id b ⟨b0, hb0⟩ hv
      have hx : ¬ XU (fun q => U q ∧ q.i ∉ α) id := fun hx => by rw [hvU_X hx] at hv; cases hv
      cases hc : FU (fun q => U q ∧ q.i ∉ α) id with
      | some c =>
        rw [hvU_F hx hc] at hv; cases hv
        exact ⟨0, by rw [hvU_F hx hc]; rfl⟩
      | none =>
        rw [hvU_st hx hc] at hv
        have h7 := (hin _ hb0).1
        simp only at h7 hv
        rw [h7] at hv; cases hv
        exact ⟨q id, by rw [hvU_st hx hc]; exact (hunl.same _ hb0).2⟩
  -- on with the rest
  have hmap : ∀ id b0 b, (id, b0) ∈ S → h.get (key id) = some b → ∃ q', h3'.get (key id) = some (b.regroup q') := by
    intro id b0 b hb0 hb
    have h6 := (hin _ hb0).1
    simp only at h6
    rw [hb] at h6; cases h6
    exact ⟨q id, (hunl.same _ hb0).2⟩
  have hpend : ∀ p, (U p ∧ p.i ∉ α) → PendOk P G ops (Region.before ops) sz reads allocs (tset o.dst v tm) ⟨h3', g2, n3⟩ p := by
    intro p hp
    have hpo := hU.ok p hp.1
    have hl : ∀ t ∈ looksK ops p.o, tm.get (key t) = (tset o.dst v tm).get (key t) := fun t ht => (tset_get fun hd => (hdst p hp t hd).1 ht).symm
    refine ⟨hpo.op, hpo.soft, hpo.lt, fun d hd => ?_, ?_, hpo.again⟩
    · rw [tset_get fun hpd => (hdst p hp d hpd).2 hd]; exact hpo.val d hd
    · have hd := hpo.does.congr hl
      unfold Does at hd ⊢
      cases hkd : p.kd <;> rw [hkd] at hd <;> simp only at hd ⊢
      · exact hd
      · exact hd
      · exact ⟨hd.1, hreads (hwf3 hwf0) (p.i, p.v) (hpo.again hkd) (hiβ _ (hβ p hp).1) p.o hpo.op (hpo.soft.2.2 hkd)⟩
      · exact hd
      · rename_i id c b
        refine ⟨hd.1, hd.2.1, ?_, hd.2.2.2⟩
        obtain ⟨b', hb'⟩ := hev id p hp.1 hp.2 hd.2.1
        obtain ⟨q', hq'⟩ := hmap id b' b hb' hd.2.2.1
        obtain ⟨_, _, _, ⟨e, es, c', rfl⟩, _⟩ := hd
        exact hq'
  have hU2 : UOk P G ops (Region.before ops) sz reads allocs (tset o.dst v tm) st0 ⟨h3', g2, n3⟩ (fun q => U q ∧ q.i ∉ α) := by
    refine ⟨hpend, hUa.uni, hUa.mku, hUa.fiu, fun p id b hp e => ?_, fun a ha => ⟨(hU.al a ha).1, by have := (hU.al a ha).2; simp only at this ⊢; omega⟩⟩
    obtain ⟨h6, h7⟩ := hUa.mkb p id b hp e
    refine ⟨fun h8 => ?_, h7⟩
    obtain ⟨g', hg'⟩ := h6 h8
    obtain ⟨b', hb'⟩ := hXS id ⟨p, b, hp, e⟩
    obtain ⟨q', hq'⟩ := hmap id b' _ hb' hg'
    exact ⟨q', by simp only; rw [hq']; cases b <;> rfl⟩
  obtain ⟨μ', w', mf', cs', r1, r2, r3, r4, r5, r6⟩ := hrest (fun p => U p ∧ p.i ∉ α) β N st0 μ0 w0 μ2 w2 mf2 cs0 cs2 (hwf3 hwf0) (by simp only; omega) hf hmid2 hU2 (fun p hp j hj => hbf p hp.1 j (by simp [hj])) (fun p hp hj => hni p hp.1 (by simp [hj])) (List.nodup_cons.1 (List.nodup_append.1 hnσ).2.1).2 (List.pairwise_cons.1 (List.pairwise_append.1 hpwσ).2.1).2
    (fun x => by
      constructor
      · intro hx
        have hxi : x ≠ i := fun e => (List.nodup_cons.1 (List.nodup_append.1 hnσ).2.1).1 (by rw [← e]; exact hx)
        have hxα : x ∉ α := fun hm => (List.nodup_append.1 hnσ).2.2 x hm x (by simp [hx]) rfl
        rcases (hσ x).1 (by simp [hx]) with h' | ⟨p, hp, rfl⟩
        · rcases List.mem_cons.1 h' with rfl | h'
          · exact absurd rfl hxi
          · exact .inl h'
        · exact .inr ⟨p, ⟨hp, hxα⟩, rfl⟩
      · rintro (hx | ⟨p, hp, rfl⟩)
        · have h1 := (hσ x).2 (.inl (by simp [hx]))
          simp only [List.mem_append, List.mem_cons] at h1
          rcases h1 with h1 | rfl | h1
          · obtain ⟨p, hp, rfl⟩ := hα x h1
            exact absurd (by simp [hx]) (hni p hp)
          · exact absurd hx hπ1
          · exact h1
        · exact (hβ p hp).1)
    ⟨_, hF2, fun t ht => by
      by_cases hd : o.dst = some t
      · rw [hd, tset_same, tset_same]
      · rw [tset_get hd, tset_get hd]; exact htm2 t ht⟩ hat2 hcs2 hne
  exact ⟨μ', w', mf', cs', r1, (hsa.trans hs2).trans r2, r3, r4, r5, r6⟩
end
end Go.Shd
/- A region that draws its order: joined. -/
namespace Go.Shd
noncomputable section
variable {G : Globals} {P : Program}

theorem drawnK_true {ihr : Run} (ih : RunOk P G ihr) {ops : Array Oper} (hstr : Strict ops (Region.before ops)) {fn : FuncId} {sz : Nat} {rnd : Option Nat} {dfd : Bool} {k : List Item} {go : Mv → St → Bool} :
    ∀ (π : List Nat) (reads : List (Nat × AV)) (allocs : List (Nat × Nat)) (m : Mv) (st : St), π.Nodup → π.Pairwise (fun j i => ((Region.before ops).getD j 0).testBit i = false) →
      drawnK P G ihr sz rnd dfd ops (Region.before ops) π reads allocs m st go = true → DrawnS P G ops fn sz rnd dfd k go π reads allocs m st
  | [], reads, allocs, m, st, _, _, h => drawn_end hstr (by simpa [drawnK] using h)
  | i :: π, reads, allocs, ⟨tm, defs, up, recd⟩, ⟨h, g, n⟩, hπ, hpw, hk => by
    have hπ2 := (List.nodup_cons.1 hπ).2
    have hpw2 := (List.pairwise_cons.1 hpw).2
    simp only [drawnK] at hk
    split at hk
    · cases hk
    rename_i o ho
    split at hk
    · -- not wanted
      rename_i hw
      obtain ⟨hk, hlt⟩ := setTK_set hk
      exact put_off (p := ⟨i, o, aundef, .skip⟩) hstr ho ⟨loudU_unwanted hw, fun h => absurd rfl h, fun h => by cases h⟩ hlt (fun x hx => hx) (fun h => by cases h) (.calm rfl rfl (fun id b h => by cases h) (fun id c b h => by cases h)) (fun _ => ⟨hw, rfl⟩) hπ hpw
        (drawnK_true ih hstr π reads allocs _ _ hπ2 hpw2 hk)
    · rename_i hw
      split at hk
      · -- quiet
        rename_i hkind
        have hnl : kindOf o.op ≠ .loud := by rw [hkind]; intro e; cases e
        have heff : (kindOf o.op).eff = false := by rw [hkind]; rfl
        have hK : ∀ (nx : ONext) (st' : St), (match nx, st' with
            | .val v, ⟨_, _, n'⟩ => match Nat.beq n' n with
              | true => setTK tm sz o.dst v fun tm => drawnK P G ihr sz rnd dfd ops (Region.before ops) π reads allocs ⟨tm, defs, up, recd⟩ ⟨h, g, n⟩ go
              | false => false
            | _, _ => false) = true → ∃ v, nx = .val v ∧ st'.next = n ∧ (setTK tm sz o.dst v fun tm => drawnK P G ihr sz rnd dfd ops (Region.before ops) π reads allocs ⟨tm, defs, up, recd⟩ ⟨h, g, n⟩ go) = true := by
          intro nx st' hh
          split at hh
          · split at hh
            · rename_i h3
              exact ⟨_, rfl, Nat.eq_of_beq_eq_true h3, hh⟩
            · cases hh
          · cases hh
        rcases (opK_soundX hk).2 with ⟨v, h1, h2⟩ | ⟨v, b, h1, _⟩ | h1
        · obtain ⟨v2, e, _, h3⟩ := hK (.val v) ⟨.leaf, .leaf, n⟩ h1
          cases e
          obtain ⟨h4, hlt⟩ := setTK_set h3
          refine put_off (p := ⟨i, o, v, .quiet⟩) hstr ho ⟨loudU_quiet hnl, fun _ => hnl, fun h => by cases h⟩ hlt (fun x hx => hx) (fun h => by cases h) (.calm rfl rfl (fun id b h => by cases h) (fun id c b h => by cases h)) (fun _ => ⟨hw, fun N μ w ρ hg hN hx => ?_⟩) hπ hpw
            (drawnK_true ih hstr π reads allocs _ _ hπ2 hpw2 h4)
          exact h2 N μ w ρ wf_leaf (rel_leaf hg hN) hx
        · obtain ⟨_, _, h3, _⟩ := hK (.val v) ((St.mk .leaf .leaf n).push b) h1
          simp [St.push] at h3
        · rw [h1] at heff; cases heff
      · -- read
        rename_i hkind
        have hnl : kindOf o.op ≠ .loud := by rw [hkind]; intro e; cases e
        obtain ⟨h', S, h1, hS, hndS, hlk, hin⟩ := lockAll_true hk
        have heff : (kindOf o.op).eff = false := by rw [hkind]; rfl
        have hK : ∀ (nx : ONext) (st' : St), (match nx, st' with
            | .val v, ⟨_, _, n'⟩ => match Nat.beq n' n with
              | true => setTK tm sz o.dst v fun tm => drawnK P G ihr sz rnd dfd ops (Region.before ops) π ((i, v) :: reads) allocs ⟨tm, defs, up, recd⟩ ⟨h, g, n⟩ go
              | false => false
            | _, _ => false) = true → ∃ v, nx = .val v ∧ st'.next = n ∧ (setTK tm sz o.dst v fun tm => drawnK P G ihr sz rnd dfd ops (Region.before ops) π ((i, v) :: reads) allocs ⟨tm, defs, up, recd⟩ ⟨h, g, n⟩ go) = true := by
          intro nx st' hh
          split at hh
          · split at hh
            · rename_i h3
              exact ⟨_, rfl, Nat.eq_of_beq_eq_true h3, hh⟩
            · cases hh
          · cases hh
        rcases (opK_soundX h1).2 with ⟨v, h2, h3⟩ | ⟨v, b, h2, _⟩ | h2
        · obtain ⟨v2, e, _, h4⟩ := hK (.val v) ⟨h', g, n⟩ h2
          cases e
          obtain ⟨h5, hlt⟩ := setTK_set h4
          refine put_off (p := ⟨i, o, v, .read⟩) hstr ho ⟨loudU_quiet hnl, fun _ => hnl, fun _ => heff⟩ hlt (fun x hx => List.mem_cons_of_mem _ hx) (fun _ => List.mem_cons_self) (.calm rfl rfl (fun id b h => by cases h) (fun id c b h => by cases h)) (fun hwf => ⟨hw, ?_⟩) hπ hpw
            (drawnK_true ih hstr π ((i, v) :: reads) allocs _ _ hπ2 hpw2 h5)
          have hw' : Wf ⟨h', g, n⟩ := hwf.lock (st := ⟨h, g, n⟩) hlk (fun id ⟨b, hb⟩ => ⟨b, (hin _ hb).1⟩)
          intro N μ w ρ hr hx
          refine h3 N μ w ρ hw' (hr.rel fun id b hb hop => ?_) hx
          have hnot : ¬ ∃ b, (id, b) ∈ S := fun hin' => by rw [(hlk id).1 hin'] at hb; cases hb; cases hop
          rw [seeUn_of (fun ⟨j, q1, q2⟩ => hnot ((hS id).2 ⟨j, q1, q2⟩)), ← (hlk id).2 hnot]; exact hb
        · obtain ⟨_, _, h4, _⟩ := hK (.val v) ((St.mk h' g n).push b) h2
          simp [St.push] at h4
        · rw [h2] at heff; cases heff
      · -- make
        rename_i hkind
        have hnl : kindOf o.op ≠ .loud := by rw [hkind]; intro e; cases e
        have heff : (kindOf o.op).eff = false := by rw [hkind]; rfl
        have hK : ∀ (nx : ONext) (st' : St), (match nx, st' with
            | .val v, ⟨h', _, n'⟩ => match Nat.beq n' (Nat.succ n), h'.get (key n) with
              | true, some b => T.setK (some b) (key n) h fun h => setTK tm sz o.dst v fun tm =>
                drawnK P G ihr sz rnd dfd ops (Region.before ops) π reads ((i, n) :: allocs) ⟨tm, defs, up, recd⟩ ⟨h, g, n'⟩ go
              | _, _ => false
            | _, _ => false) = true → ∃ v b, nx = .val v ∧ st'.next = n + 1 ∧ st'.heap.get (key n) = some b ∧
              (setTK tm sz o.dst v fun tm => drawnK P G ihr sz rnd dfd ops (Region.before ops) π reads ((i, n) :: allocs) ⟨tm, defs, up, recd⟩ ⟨T.set (some b) (key n) h, g, n + 1⟩ go) = true := by
          intro nx st' hh
          split at hh
          · rename_i v h' g' n'
            split at hh
            · rename_i b h3 h4
              rw [T.setK_eq] at hh
              have := Nat.eq_of_beq_eq_true h3
              subst this
              exact ⟨_, b, rfl, rfl, h4, hh⟩
            · cases hh
          · cases hh
        rcases (opK_soundX hk).2 with ⟨v, h1, _⟩ | ⟨v, b, h1, hop, hg, h2⟩ | h1
        · obtain ⟨_, _, _, h3, _⟩ := hK (.val v) ⟨.leaf, .leaf, n⟩ h1
          simp at h3
        · obtain ⟨v2, b2, e, _, h3, h4⟩ := hK (.val v) ((St.mk .leaf .leaf n).push b) h1
          cases e
          simp only [St.push, T.get_set, if_true] at h3
          cases h3
          obtain ⟨h5, hlt⟩ := setTK_set h4
          refine put_off (p := ⟨i, o, v, .make n b⟩) (st1 := (St.mk h g n).push b) hstr ho ⟨loudU_quiet hnl, fun _ => hnl, fun h => by cases h⟩ hlt (fun x hx => hx) (fun h => by cases h) (.make b rfl rfl hop hg rfl)
            (fun _ => ⟨hw, List.mem_cons_self, hop, fun N μ w ρ hgl hN hx hmu => ?_⟩) hπ hpw (drawnK_true ih hstr π reads ((i, n) :: allocs) _ _ hπ2 hpw2 h5)
          exact h2 N μ w ρ wf_leaf (rel_leaf hgl hN) hx hmu
        · rw [h1] at heff; cases heff
      · -- an entry of a map of the region's own
        rename_i hkind
        have hnl : kindOf o.op ≠ .loud := by rw [hkind]; intro e; cases e
        split at hk
        case h_2 => cases hk
        rename_i ty t kx vx hop
        split at hk
        case h_2 => cases hk
        rename_i id hid
        split at hk
        case h_2 => cases hk
        rename_i c hev hb
        rw [T.setK_eq] at hk
        have hK : ∀ (nx : ONext) (st' : St), (match nx, st' with
            | .val v, ⟨h', _, n'⟩ => match Nat.beq n' n, h'.get (key id) with
              | true, some (.map (e :: es) c') => T.setK (some (.map (e :: es) c')) (key id) h fun h => setTK tm sz o.dst v fun tm =>
                againK P G ops (Region.before ops) 0 ((i, id) :: allocs) tm h g n (drawnK P G ihr sz rnd dfd ops (Region.before ops) π reads ((i, id) :: allocs) ⟨tm, defs, up, recd⟩ ⟨h, g, n⟩ go) reads
              | _, _ => false
            | _, _ => false) = true → ∃ v e es c', nx = .val v ∧ st'.next = n ∧ st'.heap.get (key id) = some (.map (e :: es) c') ∧
              (setTK tm sz o.dst v fun tm => againK P G ops (Region.before ops) 0 ((i, id) :: allocs) tm (T.set (some (.map (e :: es) c')) (key id) h) g n
                (drawnK P G ihr sz rnd dfd ops (Region.before ops) π reads ((i, id) :: allocs) ⟨tm, defs, up, recd⟩ ⟨T.set (some (.map (e :: es) c')) (key id) h, g, n⟩ go) reads) = true := by
          intro nx st' hh
          split at hh
          · split at hh
            · rename_i e es c' h3 h4
              rw [T.setK_eq] at hh
              exact ⟨_, e, es, c', rfl, Nat.eq_of_beq_eq_true h3, h4, hh⟩
            · cases hh
          · cases hh
        obtain ⟨nx, st', h1, _, _, hsound⟩ := opK_sound hk
        obtain ⟨v, e, es, c', rfl, hn', hb', h2⟩ := hK nx st' h1
        obtain ⟨h3, hlt⟩ := setTK_set h2
        obtain ⟨h4, hre⟩ := againK_true h3
        have hst1 : (St.mk h g n).setB id (some (.map (e :: es) c')) = ⟨T.set (some (.map (e :: es) c')) (key id) h, g, n⟩ := rfl
        refine put_off (p := ⟨i, o, v, .fill id c (.map (e :: es) c')⟩) (st1 := (St.mk h g n).setB id (some (.map (e :: es) c'))) hstr ho ⟨loudU_quiet hnl, fun _ => hnl, fun h => by cases h⟩ hlt (fun x hx => hx) (fun h => by cases h)
          (.fill id c c' e es rfl rfl hb (hasEv_true hev) rfl (fun hw1 r hr o2 ho2 heff => hre hw1 r hr (Nat.zero_testBit _) o2 ho2 heff))
          (fun hwf => ⟨hw, List.mem_cons_self, by rw [hst1]; simp only [T.get_set, if_true], ⟨e, es, c', rfl⟩, ⟨t, by simp [hop, Op.operands], hid⟩, fun N μ w ρ r hgl hN hx hmu hNr hrl hbr => ?_⟩) hπ hpw (drawnK_true ih hstr π reads ((i, id) :: allocs) _ _ hπ2 hpw2 h4)
        have hidn : id < n := hwf.lt id _ hb
        have hwf0 : Wf ⟨T.set (some (.map [] c)) (key id) .leaf, .leaf, n⟩ := by
          have hone : ∀ id' b, (T.set (some (Blk.map [] c)) (key id) .leaf).get (key id') = some b → id' = id ∧ b = .map [] c := by
            intro id' b hb
            rw [T.get_set] at hb
            split at hb
            · rename_i e'; exact ⟨e', by cases hb; rfl⟩
            · simp at hb
          refine ⟨fun id' b hb => by rw [(hone id' b hb).1]; exact hidn, fun id' b g' hb hg => (by rw [(hone id' b hb).2] at hg; cases hg), fun id' cs' e' fz g' cap hb => (by cases (hone id' _ hb).2), fun g' _ => by simp⟩
        have hrel0 : Rel G N μ ⟨T.set (some (.map [] c)) (key id) .leaf, .leaf, n⟩ w := by
          have hone : ∀ id' b, (T.set (some (Blk.map [] c)) (key id) .leaf).get (key id') = some b → id' = id ∧ b = .map [] c := by
            intro id' b hb
            rw [T.get_set] at hb
            split at hb
            · rename_i e'; exact ⟨e', by cases hb; rfl⟩
            · simp at hb
          refine ⟨fun id' b hb _ => ?_, fun id1 id2 b1 b2 r' hne hb1 _ hb2 => ?_, hgl, hN⟩
          · obtain ⟨rfl, rfl⟩ := hone id' b hb
            exact ⟨r, hmu, hNr, hrl, hbr⟩
          · exact absurd ((hone id1 b1 hb1).1.trans (hone id2 b2 hb2).1.symm) hne
        obtain ⟨μ', w', hp, hout⟩ := hsound N μ w ρ hwf0 (fun id' h1 h2 => by simp only at h1; omega) hrel0 hx
        have hμ : ∀ id', μ'.b id' = μ.b id' ∧ μ'.x id' = μ.x id' := fun id' => hp.ext id' (by simp only; omega)
        have hμe : μ' = μ := by
          cases μ' with
          | mk b' x' => cases μ with
            | mk b'' x'' => simp only [Mu.mk.injEq]; exact ⟨funext fun id' => (hμ id').1, funext fun id' => (hμ id').2⟩
        subst hμe
        obtain ⟨r', hr', _, _, hbr'⟩ := hp.rel.blk id _ hb' rfl
        rw [hmu] at hr'; cases hr'
        refine ⟨w', hout, hbr', hp.size, fun r2 h1 h2 => (hp.frame r2 h1 fun id' b hb _ e' => ?_).1, hp.rel.glob, hp.same⟩
        rw [T.get_set] at hb
        split at hb
        · rename_i e2; rw [e2, hmu] at e'; cases e'; exact h2 rfl
        · simp at hb
      · -- loud
        split at hk
        case h_2 => cases hk
        rename_i haft hbd
        exact drawn_loud ih hstr hπ hpw ho hw haft hbd hk fun m st hh => drawnK_true ih hstr π reads allocs m st hπ2 hpw2 hh

/-- The region, whatever order the machine draws. -/
theorem drawn_goes {ihr : Run} (ih : RunOk P G ihr) (hmix : P.follows .mixedOrders = true) {ops : Array Oper} {id : Nat} (hlen : (order ops).length = ops.size) (hstr : strictOk ops (Region.before ops) = true) {fn : FuncId} {sz : Nat} {rnd : Option Nat} {dfd : Bool} {k : List Item} {go : Mv → St → Bool} {m : Mv} {st : St} {pan : Mv → AV → St → Bool}
    (h : drawnK P G ihr sz rnd dfd ops (Region.before ops) (order ops) [] [] m st go = true) :
    Goes P G st fn sz rnd dfd m (fun _ mf => mf.mode = .run ∧ mf.todo = .code (.region id ops true) :: k) (fun _ mf => mf.mode = .run ∧ mf.todo = k) go pan := by
  have hlin := order_lin hlen
  obtain ⟨m', st', hk, hu, hn, hwf, hd⟩ := drawnK_true (fn := fn) (k := k) ih (strict_of hstr) (order ops) [] [] m st hlin.nodup hlin.pairwise h
  refine .inl ⟨m', st', hk, hu, hn, hwf, fun N μ w mf cs0 cs hw hf hr hfr hq hcs hne => ?_⟩
  have hr' : Rel G N μ st w.drew := ⟨hr.blk, hr.sep, hr.glob, hr.base⟩
  have hσ : Lin ops (Region.schedule (P.follows .mixedOrders) ops (w.tape w.drawn (.order mf.fn id))) := by rw [hmix]; exact schedule_lin hlen _
  obtain ⟨μ', w', mf', cs', h1, h2, h3, h4, h5, h6⟩ := hd (fun _ => False) (Region.schedule (P.follows .mixedOrders) ops (w.tape w.drawn (.order mf.fn id))) N st μ w.drew μ w.drew { mf with todo := .inRegion ops (Region.schedule (P.follows .mixedOrders) ops (w.tape w.drawn (.order mf.fn id))) :: k } cs0 cs
    hw (Nat.le_refl _) hf ((Mid.begin hr').congr (fun id => ⟨fun h => h.elim, fun ⟨_, _, h, _⟩ => h⟩) (fun id => (hvU_st (fun ⟨_, _, h, _⟩ => h) (FU_none fun _ _ _ h => h.elim)).symm))
    ⟨fun _ h => h.elim, fun _ _ h => h.elim, fun _ _ _ _ _ h => h.elim, fun _ _ _ _ _ _ _ h => h.elim, fun _ _ _ h => h.elim, by simp⟩ (fun _ h => h.elim) (fun _ h => h.elim) hσ.nodup hσ.pairwise
    (fun x => by rw [hσ.mem, hlin.mem]; exact ⟨.inl, fun h => h.elim (fun h => h) (fun ⟨_, h, _⟩ => h.elim)⟩) ⟨m.tm, ⟨hfr.hfn, hfr.htm, hfr.hdefs, hfr.hkind, hfr.hrnd, hfr.plain⟩, fun _ _ => rfl⟩ ⟨hq.1, rfl⟩ hcs hne
  have hp := h1.post
  exact ⟨μ', w', mf', cs', ⟨hp.rel, hp.ext, hp.size, hp.frame, hp.lock, ⟨hp.same.os, hp.same.out, hp.same.tape⟩⟩, Steps.head (st_region_draw hq.1 hq.2) h2, h3, ⟨h4, h5⟩, h6⟩
end
end Go.Shd
/- A run of the shadow: sound. -/
namespace Go.Shd
noncomputable section
variable {G : Globals} {P : Program}

theorem Goes.from {st : St} {K : AEnd → St → Bool} {fn : FuncId} {sz : Nat} {rnd : Option Nat} {dfd : Bool} {m : Mv} {Q Q' : Mu → Frame → Prop} {go : Mv → St → Bool} {pan : Mv → AV → St → Bool} (h : Goes P G st fn sz rnd dfd m Q Q' go pan)
    (hgo : ∀ m' st', go m' st' = true → From P G st' K fn m'.tm sz m'.defs rnd dfd m'.up m'.recd Q') (hpan : ∀ m' v st', pan m' v st' = true → From P G st' K fn m'.tm sz m'.defs rnd dfd m'.up m'.recd (fun μ mf => ModeR μ (some v) mf)) :
    From P G st K fn m.tm sz m.defs rnd dfd m.up m.recd Q := by
  rcases h with ⟨m', st', hk, hu, hn, hwf, h⟩ | ⟨m', v, st', hk, hu, hn, hwf, h⟩
  · exact (hgo m' st' hk).turn hu hn hwf fun N μ w mf cs0 cs hw hf hr hF hq hcs hne => h N μ w mf cs0 cs hw hf hr hF hq hcs hne
  · refine (hpan m' v st' hk).turn hu hn hwf fun N μ w mf cs0 cs hw hf hr hF hq hcs hne => ?_
    obtain ⟨μ', w', mf', cs', V, h1, h2, h3, h4, h5, h6⟩ := h N μ w mf cs0 cs hw hf hr hF hq hcs hne
    exact ⟨μ', w', mf', cs', h1, h2, h3, ⟨V, h5, h4⟩, h6⟩

/-- One step of control ahead. -/
theorem From.move {st : St} {K : AEnd → St → Bool} {fn : FuncId} {tm : T AV} {sz : Nat} {defs : List DItem} {rnd : Option Nat} {dfd : Bool} {up : Option AV} {recd : Bool} {t t' : List Item}
    (h : From P G st K fn tm sz defs rnd dfd up recd fun _ mf => mf.mode = .run ∧ mf.todo = t') (hs : ∀ (mf : Frame) cs w, mf.mode = .run → mf.todo = t → Go.step P (lone mf cs w) = Stepped.next (lone { mf with todo := t' } cs w)) :
    From P G st K fn tm sz defs rnd dfd up recd fun _ mf => mf.mode = .run ∧ mf.todo = t :=
  h.step (UpOk.refl _ _) fun _ μ w mf _ cs _ hF hq hcs => ⟨{ mf with todo := t' }, cs, .one (hs mf cs w hq.1 hq.2), ⟨hF.hfn, hF.htm, hF.hdefs, hF.hkind, hF.hrnd, hF.plain⟩, ⟨hq.1, rfl⟩, hcs⟩

theorem From.weaken {st : St} {K : AEnd → St → Bool} {fn : FuncId} {tm : T AV} {sz : Nat} {defs : List DItem} {rnd : Option Nat} {dfd : Bool} {up : Option AV} {recd : Bool} {Q Q' : Mu → Frame → Prop}
    (h : From P G st K fn tm sz defs rnd dfd up recd Q') (hq : ∀ μ mf, Q μ mf → Q' μ mf) : From P G st K fn tm sz defs rnd dfd up recd Q := by
  obtain ⟨e, st', hk, hn, hwf, h⟩ := h
  exact ⟨e, st', hk, hn, hwf, fun N μ w mf cs0 cs hw hf hr hF hQ => h N μ w mf cs0 cs hw hf hr hF (hq μ mf hQ)⟩

theorem run_ok (hmix : P.follows .mixedOrders = true) : ∀ n, RunOk P G (run P G n)
  | 0 => fun fr st K h => by simp [run] at h
  | n + 1 => fun fr st K h => by
    have ih := run_ok hmix n
    obtain ⟨fn, tm, sz, todo, defs, rnd, up, dfd, recd⟩ := fr
    cases todo with
    | nil =>
      simp only [run] at h
      exact (exitK_true ih (sz := sz) (up := up) h).weaken fun _ mf hq => ⟨hq.1, .inl ⟨hq.2, rfl⟩⟩
    | cons it k =>
      cases it with
      | code c =>
        cases c with
        | ret =>
          simp only [run] at h
          exact (exitK_true ih (sz := sz) (up := up) h).weaken fun _ mf hq => ⟨hq.1, .inr (.inl ⟨k, hq.2, rfl⟩)⟩
        | skip => simp only [run] at h; exact (ih _ _ _ h).move fun mf cs w hm ht => st_skip hm ht
        | label l => simp only [run] at h; exact (ih _ _ _ h).move fun mf cs w hm ht => st_label hm ht
        | seq a b => simp only [run] at h; exact (ih _ _ _ h).move fun mf cs w hm ht => st_seq hm ht
        | cond c a b =>
          simp only [run] at h
          obtain ⟨v, h1, hv⟩ := evK_true h
          clear h
          split at h1
          · refine (ih _ _ _ h1).step (UpOk.refl _ _) fun _ μ w mf _ cs _ hF hq hcs => ⟨{ mf with todo := .code a :: k }, cs, .one ?_, ⟨hF.hfn, hF.htm, hF.hdefs, hF.hkind, hF.hrnd, hF.plain⟩, ⟨hq.1, rfl⟩, hcs⟩
            have := hv μ mf.eval (hF.eval c)
            simp only [VR] at this
            exact st_cond (t := true) hq.1 hq.2 this
          · refine (ih _ _ _ h1).step (UpOk.refl _ _) fun _ μ w mf _ cs _ hF hq hcs => ⟨{ mf with todo := .code b :: k }, cs, .one ?_, ⟨hF.hfn, hF.htm, hF.hdefs, hF.hkind, hF.hrnd, hF.plain⟩, ⟨hq.1, rfl⟩, hcs⟩
            have := hv μ mf.eval (hF.eval c)
            simp only [VR] at this
            exact st_cond (t := false) hq.1 hq.2 this
          · cases h1
        | block id b => simp only [run] at h; exact (ih _ _ _ h).move fun mf cs w hm ht => st_block hm ht
        | loop b => simp only [run] at h; exact (ih _ _ _ h).move fun mf cs w hm ht => st_loop hm ht
        | scope b => simp only [run] at h; exact (ih _ _ _ h).move fun mf cs w hm ht => st_scope hm ht
        | exit id =>
          simp only [run] at h
          split at h
          · rename_i k' he; exact (ih _ _ _ h).move fun mf cs w hm ht => st_exit hm ht he
          · rename_i he; exact (exitK_true ih (sz := sz) (up := up) h).weaken fun _ mf hq => ⟨hq.1, .inr (.inr (.inl ⟨id, k, hq.2, he, rfl⟩))⟩
        | goto l =>
          simp only [run] at h
          split at h
          · rename_i k' he; exact (ih _ _ _ h).move fun mf cs w hm ht => st_goto hm ht he
          · rename_i he; exact (exitK_true ih (sz := sz) (up := up) h).weaken fun _ mf hq => ⟨hq.1, .inr (.inr (.inr ⟨l, k, hq.2, he, rfl⟩))⟩
        | rangeFunc f params assign body =>
          simp only [run] at h
          exact rangeK_true ih h
        | region id ops draw =>
          simp only [run] at h
          cases draw with
          | false =>
            simp only at h
            refine (Goes.from (regK_true ih (fn := fn) (k := k) ops.toList 0 ⟨tm, defs, up, recd⟩ st (by simp) h) (fun m' st' hk => ih _ _ _ hk) (fun m' v st' hk => panK_true ih hk)).step (UpOk.refl _ _)
              fun _ μ w mf _ cs _ hF hq hcs => ⟨{ mf with todo := .inRegion ops (List.range ops.size) :: k }, cs, .one (st_region hq.1 hq.2), ⟨hF.hfn, hF.htm, hF.hdefs, hF.hkind, hF.hrnd, hF.plain⟩, ⟨hq.1, by rw [List.range_eq_range']; rfl⟩, hcs⟩
          | true =>
            simp only at h
            split at h
            case h_2 => cases h
            rename_i hc
            simp only [Bool.and_eq_true] at hc
            exact Goes.from (drawn_goes ih hmix (Nat.eq_of_beq_eq_true hc.1) hc.2 (pan := fun _ _ _ => false) h) (fun m' st' hk => ih _ _ _ hk) (fun m' v st' hk => by cases hk)
        | refuse s => simp [run] at h
      | inBlock id => simp only [run] at h; exact (ih _ _ _ h).move fun mf cs w hm ht => st_inBlock hm ht
      | inScope c => simp only [run] at h; exact (ih _ _ _ h).move fun mf cs w hm ht => st_inScope hm ht
      | inLoop b => simp only [run] at h; exact (ih _ _ _ h).move fun mf cs w hm ht => st_inLoop hm ht
      | beginRound =>
        simp only [run] at h
        cases rnd with
        | none => cases h
        | some l =>
          simp only at h
          split at h
          case h_2 => cases h
          rename_i p fn' tm' sz' ps asg bd dfs hb
          rw [setBlkK_eq] at h
          refine (ih _ _ _ h).turn (UpOk.refl _ _) (Nat.le_refl _) (fun hw => hw.setB hb _ (by intro b'' h; cases h; rfl)) fun N μ w mf cs0 cs hw hf hr hF hq hcs hne => ?_
          obtain ⟨r, hrm, hro⟩ := hF.hrnd
          obtain ⟨r', hrm', hN, hlt, L, dd, hob, hd, hTR, hs, hp, hfn, hps, has, hbd, hdf⟩ := hr.blk l _ hb rfl
          rw [hrm] at hrm'; cases hrm'
          have hg := run_getO (P := P) hob (by intros; simp)
          have hst := fun o' => run_setO (P := P) o' hob (by intros; simp)
          refine ⟨μ, wput w r (.loop { L with state := .busy }), { mf with todo := k }, cs, Post.setB hr hb rfl rfl hrm _ rfl rfl _ ⟨_, dd, rfl, hd, hTR, rfl, hp, hfn, hps, has, hbd, hdf⟩, .one (st_beginRound hq.1 hq.2 hro ?_), ⟨hF.hfn, hF.htm, hF.hdefs, hF.hkind, hF.hrnd, hF.plain⟩, ⟨hq.1, rfl⟩, hcs⟩
          simp [Instr.beginRound, Instr.getLoop, hg, hst, hs]
      | _ => simp [run] at h

def μnone : Mu := ⟨fun _ => none, fun _ => 0⟩

/-- What a call in the shadow says of the machine's. -/
theorem call_true (hmix : P.follows .mixedOrders = true) {n : Nat} {f : FuncId} {args : List AV} {K : AEnd → St → Bool} (h : Shd.call P G n f args K = true) :
    ∃ e st', K e st' = true ∧ ∀ w (A : Array Value), GlobOk G w.heap.size w → (∀ μ, VRs μ args A.toList) → Calls P f A w fun E w' => ∃ μ', Post G w.heap.size ⟨.leaf, .leaf, 0⟩ μnone w st' μ' w' ∧
      match e with
      | .ret v _ => ∃ V, E = .returned V ∧ VR μ' v V
      | .pan v => ∃ V, E = .panicked [{ v := V, recovered := false }] ∧ VR μ' v V := by
  unfold call at h
  obtain ⟨fd, c, tm, sz, hfd, h1, hE⟩ := enterK_true h
  clear h
  obtain ⟨e, st', hk, hn, hwf, h2⟩ := run_ok hmix n _ _ _ h1
  refine ⟨e, st', hk, fun w A hg hA cs => ?_⟩
  obtain ⟨hF, hm, ht⟩ := hE μnone A (hA μnone)
  obtain ⟨μ', w', hp, mf, cs', up', recd', _, hs, hfn, hd, hkd, hcs, hend⟩ := h2 w.heap.size μnone w (Frame.enter P f A .normal) cs cs wf_leaf (fun _ _ _ => rfl) (rel_leaf hg (Nat.le_refl _)) hF ⟨hm, ht⟩ rfl (by simp)
  simp only [CsR] at hcs
  subst hcs
  cases e with
  | ret v r =>
    obtain ⟨hmode, _, V, fd', hfd', hres, hv⟩ := hend
    exact ⟨.returned V, w', mf, ⟨μ', hp, V, rfl, hv⟩, hs, hfn, hmode, hd, hkd, fd', by rw [hfn]; exact hfd', hres⟩
  | pan v =>
    obtain ⟨_, V, hmode, hv, fd', hfd'⟩ := hend
    exact ⟨.panicked [{ v := V, recovered := false }], w', mf, ⟨μ', hp, V, rfl, hv⟩, hs, hfn, hmode, hd, fd', by rw [hfn]; exact hfd'⟩
end
end Go.Shd
