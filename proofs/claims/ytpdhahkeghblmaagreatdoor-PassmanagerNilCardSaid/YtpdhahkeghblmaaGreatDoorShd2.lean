/- The shadow of each operation is sound: the plain ones. -/
import Derived.Test.YtpdhahkeghblmaaGreatDoorShd1
import Derived.Laws.Tables
import Derived.Laws.MakeOwn
import Derived.ChangeKeysEq
import Derived.Laws.BytesString
import Derived.Laws.BytesArg
set_option linter.unusedSimpArgs false
set_option linter.unusedVariables false
/- The builtin append: the shadow against the model. -/
namespace Go.Shd
noncomputable section
variable {G : Globals} {N : Nat} {P : Program}

theorem all5_true {a b c d e : Bool} (h : all5 a b c d e = true) : a = true ∧ b = true ∧ c = true ∧ d = true ∧ e = true := by
  cases a <;> cases b <;> cases c <;> cases d <;> simp_all [all5]

theorem Rel.drew {st : St} {μ : Mu} {w : World} (h : Rel G N μ st w) : Rel G N μ st w.drew := (Post.drew h).rel

/-- A new row behind a draw. -/
theorem Post.newRow {st : St} {μ : Mu} {w : World} (hr : Rel G N μ st w) (hf : μ.b st.next = none) {cs : List AV} {A : Array Value} {elem : TypeId} {g need size x : Nat}
    (hcs : Pre μ cs A.toList) (hx : (need + x) * size ≤ A.size) :
    Post G N st μ w (st.push (.cells cs elem (0, 0) g (some (need, size)))) (μ.new st.next w.heap.size x) (w.drew.alloc (.cells A elem)) := by
  have h2 := Post.new (G := G) (N := N) hr.drew hf (.cells cs elem (0, 0) g (some (need, size))) rfl (.cells A elem) x
    ⟨A, rfl, hcs.mono (Mu.le_new hf), by simp only [capOk, Mu.new, if_true]; exact hx⟩
  exact {
    rel := h2.rel, ext := h2.ext, size := h2.size
    frame := fun r hlt hfr => h2.frame r hlt hfr
    lock := h2.lock, same := ⟨rfl, rfl, rfl⟩ }

theorem VR.slc_new {μ : Mu} {n r x need : Nat} : VR (μ.new n r x) (.slc n 0 need need (some n)) (.slice (some ⟨r, 0, none⟩) need (need + x)) :=
  ⟨r, x, by simp [Mu.new], ⟨⟨r, by simp [Mu.new]⟩, by simp [Mu.new]⟩, rfl⟩

theorem perhaps_open {st : St} {off id len lb n size ei : Nat} {elem : TypeId} {old new : List AV} {K : AV → St → Bool}
    (h : (match off, st.heap.get (key id) with
      | 0, some (.cells cs0 e (0, 0) grp (some (nd, sz))) => match all5 (Nat.beq e elem) true (Nat.beq sz size) (Nat.beq lb nd) (Nat.beq ei id), allOne new with
        | true, true => natK (Nat.mul len size) fun used => natK (Nat.mul (Nat.add len n) size) fun mx' =>
          growK st id grp e (0, 0) (some (nd, sz)) cs0 used mx' (Nat.add len n) size (old ++ new) fun id' st => K (.slc id' 0 (Nat.add len n) (Nat.add len n) (some id')) st
        | _, _ => false
      | _, _ => false) = true) :
    0 = off ∧ id = ei ∧ ∃ cs0 grp, st.heap.get (key id) = some (.cells cs0 elem (0, 0) grp (some (lb, size))) ∧ allOne new = true ∧
      growK st id grp elem (0, 0) (some (lb, size)) cs0 (len * size) ((len + n) * size) (len + n) size (old ++ new) (fun id' st => K (.slc id' 0 (len + n) (len + n) (some id')) st) = true := by
  split at h
  case h_2 => cases h
  rename_i cs0 e grp nd sz hb
  split at h
  case h_2 => cases h
  rename_i hall hone
  obtain ⟨he, _, hs1, hs2, hs3⟩ := all5_true hall
  have he := of_beq he; have hs1 := of_beq hs1; have hs2 := of_beq hs2; have hs3 := of_beq hs3
  subst he; subst hs1; subst hs2
  rw [natK_eq, natK_eq] at h
  exact ⟨rfl, hs3.symm, cs0, grp, hb, hone, h⟩

set_option maxHeartbeats 2000000 in
theorem appendK_true {st : St} {t : TypeId} {s x : AV} {K : AV → St → Bool} (h : appendK P G st t s x K = true) : ∃ v st', K v st' = true ∧ st.next ≤ st'.next ∧ (Wf st → Wf st') ∧
    ∀ N μ w (u type : TypeId) S X, Wf st → Fresh μ st.next st'.next → Rel G N μ st w → srcOk P u → VR μ s S → VR μ x X →
      ∃ μ' w' V, (Builtin.append_ #[t, u] type #[S, X]).run P w = .ok V w' ∧ Post G N st μ w st' μ' w' ∧ VR μ' v V := by
  unfold appendK at h
  split at h
  case h_2 => cases h
  rename_i elem hu
  have hu := und_some P hu
  split at h
  case h_2 => cases h
  rename_i size bytes z hsz hby hz
  split at h
  case h_2 => cases h
  rename_i size' bytes' hzl
  have hzl := of_beq hzl
  obtain ⟨i, hi, hib⟩ := bytes_run hby
  have his : i.size = size' + 1 := by
    unfold sizeOf? at hsz
    obtain ⟨j, hj, hj2⟩ := Option.map_eq_some_iff.1 hsz
    have := tinfo_some P hj
    rw [hi] at this; cases this; exact hj2
  obtain ⟨Z, hiz, hZ⟩ : ∃ Z, i.zero = some Z ∧ ∀ μ, VRs μ z Z.cells.toList := by
    unfold zeroOf at hz
    split at hz
    · rename_i v hv
      obtain ⟨j, hj, hj2⟩ := Option.bind_eq_some_iff.1 hv
      have := tinfo_some P hj
      rw [hi] at this; cases this
      exact ⟨v, hj2, fun μ => ofVals_VR μ _ _ hz⟩
    · cases hz
  have hZs : Z.cells.size = size' + 1 := by have := (hZ ⟨fun _ => none, fun _ => 0⟩).len; rw [hzl] at this; simpa using this.symm
  have hzc : ∀ m, (Builtin.zeroCells Z.cells m).size = m * (size' + 1) := fun m => by simp [Builtin.zeroCells, hZs]
  obtain ⟨n, h, hlen⟩ := lenOfK_true h
  have lenA : ∀ {l : List AV} {m : Nat} {μ : Mu} {A : Array Value} {X : Value}, VRs μ l A.toList → (∀ w, (Builtin.lenOf X).run P w = .ok m w) →
      (l.length = m * (size' + 1) ∨ ∃ s, X = .string s ∧ size' + 1 = 1 ∧ l.length = min m s.size) → A.size = m * (size' + 1) := by
    intro l m μ A X hA hl hc
    have := hA.len
    rcases hc with hc | ⟨s, rfl, h1, h2⟩
    · rw [hc] at this; simpa using this.symm
    · have h3 : s.size = m := by have := hl default; injection this
      rw [h2, h3, Nat.min_self] at this; rw [h1, Nat.mul_one]; simpa using this.symm
  split at h
  · -- onto nil
    split at h
    · rename_i n0
      refine ⟨_, st, h, Nat.le_refl _, fun h => h, fun N μ w u type S X hwf hfr hr hsrc hS hX => ?_⟩
      simp only [VR] at hS; subst hS
      have hl := fun w => hlen μ X w hX
      have hfc : ∃ A, (Builtin.firstCells i.size 0 X).run P w = .ok A w := by
        have := hl w
        cases X with
        | slice a l c => cases a with
          | none => exact ⟨_, rfl⟩
          | some a => refine ⟨#[], ?_⟩; show (loadCells a (0 * i.size)).run P w = _; rw [Nat.zero_mul]; rfl
        | string s => exact ⟨_, rfl⟩
        | _ => simp [Builtin.lenOf] at this
      obtain ⟨A, hA⟩ := hfc
      exact ⟨μ, w, _, run_append_room (base := none) (len := 0) (cap := 0) hu hsrc hi hl (by omega) hA rfl, Post.refl hr, by simp [VR]⟩
    · rename_i n' 
      split at h
      case h_2 => cases h
      rename_i hle
      have hle := of_ble hle
      obtain ⟨new, h, hnewl, hnew⟩ := firstK_true h
      rw [newCapK_push] at h
      refine ⟨_, _, h, by simp [St.push], fun hw => hw.push _ (by intro g hg; simp [Blk.grp?] at hg; exact hg.symm), fun N μ w u type S X hwf hfr hr hsrc hS hX => ?_⟩
      simp only [VR] at hS; subst hS
      have hl := fun w => hlen μ X w hX
      have hf0 : μ.b st.next = none := hfr _ (Nat.le_refl _) (by simp [St.push])
      obtain ⟨A, hA, hAv, hAl⟩ := hnew N μ w.drew X hr.drew hX
      have hAs := lenA hAv hl hAl
      obtain ⟨x, hx⟩ := run_append_new (type := type) (base := none) (len := 0) (cap := 0) (w := w) hu hsrc hi hiz hl (by omega) (by omega) (by rw [hib, Nat.zero_add]; exact hle) (O := #[]) rfl (by rw [his]; exact hA)
      refine ⟨_, _, _, hx, Post.newRow (x := x) hr hf0 (A := #[] ++ A ++ Builtin.zeroCells Z.cells x) ⟨A.toList, (Builtin.zeroCells Z.cells x).toList, by simp, hAv⟩ ?_, ?_⟩
      · simp only [Array.size_append, hzc, hAs, Nat.add_mul]; simp
      · simpa using VR.slc_new (μ := μ) (n := st.next) (r := w.heap.size) (x := x) (need := n' + 1)
  · rename_i id off len lb ex _
    rw [natK_eq] at h
    split at h
    · rename_i hroom
      have hroom := of_ble hroom
      obtain ⟨new, h, hnewl, hnew⟩ := firstK_true h
      split at h
      · refine ⟨_, st, h, Nat.le_refl _, fun h => h, fun N μ w u type S X hwf hfr hr hsrc hS hX => ?_⟩
        have hl := fun w => hlen μ X w hX
        obtain ⟨r, c, hm, hc, rfl⟩ := hS
        obtain ⟨A, hA, hAv, hAl⟩ := hnew N μ w X hr hX
        simp only [VRs_nil] at hAv
        have hroom : len + n ≤ lb := hroom
        refine ⟨μ, w, _, run_append_room (base := some ⟨r, off, none⟩) (len := len) (cap := lb + c) (w' := w) hu hsrc hi hl (by omega) (by rw [his]; exact hA) (by rw [hAv]; rfl), Post.refl hr, ?_⟩
        exact ⟨r, c, hm, hc, rfl⟩
      · split at h
        case h_2 => cases h
        rename_i hone
        obtain ⟨st', h1, h2, h3, h4⟩ := writeK_true (G := G) h
        refine ⟨_, st', h1, by omega, h3, fun N μ w u type S X hwf hfr hr hsrc hS hX => ?_⟩
        have hl := fun w => hlen μ X w hX
        obtain ⟨r, c, hm, hc, rfl⟩ := hS
        obtain ⟨A, hA, hAv, hAl⟩ := hnew N μ w X hr hX
        obtain ⟨arr, e, fz, hb, hle, hz', hp⟩ := h4 N μ w r _ hwf hr hm hAv
        have hroom : len + n ≤ lb := hroom
        refine ⟨μ, _, _, run_append_room (base := some ⟨r, off, none⟩) (len := len) (cap := lb + c) hu hsrc hi hl (by omega) (by rw [his]; exact hA) ?_, hp, ⟨r, c, hm, hc, rfl⟩⟩
        simp only [add_mid, his]
        have := run_storeCells (P := P) (r := r) (off := off + len * (size' + 1)) A.toList 0 w arr hb (by simpa using hle) (by simpa using hz') (allOne_VR hAv hone)
        simpa using this
    · rename_i hgrow
      have hgrow : lb < len + n := of_ble_false hgrow
      split at h
      case h_2 => cases h
      rename_i hsm
      have hsm := of_ble hsm
      obtain ⟨old, h, holdl, hold⟩ := firstK_true h
      obtain ⟨new, h, hnewl, hnew⟩ := firstK_true h
      rw [appK_eq] at h
      simp only [Nat.succ_eq_add_one] at h hnewl holdl hnew hold
      split at h
      · -- no room for sure
        rw [newCapK_push] at h
        refine ⟨_, _, h, by simp [St.push], fun hw => hw.push _ (by intro g hg; simp [Blk.grp?] at hg; exact hg.symm), fun N μ w u type S X hwf hfr hr hsrc hS hX => ?_⟩
        have hl := fun w => hlen μ X w hX
        have hf0 : μ.b st.next = none := hfr _ (Nat.le_refl _) (by simp [St.push])
        obtain ⟨A, hA, hAv, hAl⟩ := hnew N μ w.drew X hr.drew hX
        obtain ⟨O, hO, hOv, hOl⟩ := hold N μ w.drew S hr.drew hS
        have hAs := lenA hAv hl hAl
        obtain ⟨r, c, hm, hc, rfl⟩ := hS
        have hOs := lenA hOv (fun w => rfl) hOl
        simp only [exOk] at hc; subst hc
        obtain ⟨x, hx⟩ := run_append_new (type := type) (base := some ⟨r, off, none⟩) (len := len) (cap := lb + 0) (w := w) hu hsrc hi hiz hl (by omega) (by omega) (by rw [hib]; exact hsm) (O := O) (by rw [his]; exact hO) (by rw [his]; exact hA)
        refine ⟨_, _, _, hx, Post.newRow (x := x) hr hf0 (A := O ++ A ++ Builtin.zeroCells Z.cells x) ⟨(O ++ A).toList, (Builtin.zeroCells Z.cells x).toList, by simp, by rw [Array.toList_append]; exact hOv.append hAv⟩ ?_, VR.slc_new⟩
        simp only [Array.size_append, hzc, hAs, hOs]
        show (len + n + x) * (size' + 1) ≤ _
        rw [Nat.add_mul, Nat.add_mul]; exact Nat.le_refl _
      · -- perhaps
        obtain ⟨hoff, hei, cs0, grp, hb, hone, hgk⟩ := perhaps_open h
        subst hei
        subst hoff
        have hneed : (len + n) * (size' + 1) = len * (size' + 1) + n * (size' + 1) := Nat.add_mul _ _ _
        obtain ⟨st1, st', hk, hn1, hn', hwf', hheap, hsub⟩ := growK_true hgk hb (by
            simp only [List.length_append]; rw [hneed]; omega) (by rw [hneed]; omega)
        refine ⟨_, st', hk, by omega, hwf', fun N μ w u type S X hwf hfr hr hsrc hS hX => ?_⟩
        have hl := fun w => hlen μ X w hX
        obtain ⟨s1, s2, s3⟩ := hsub hwf
        have hf0 : μ.b st1.next = none := by rw [hn1]; exact hfr _ (Nat.le_refl _) (by omega)
        have hpsub : Post G N st μ w st1 μ w := by
          refine Post.sub hr ?_
          intro id2 b' h2
          by_cases e1 : id2 = id
          · subst e1
            rw [s1] at h2; cases h2
            refine ⟨_, hb, rfl, rfl, fun h => by simp [Blk.open] at h, ?_⟩
            rintro o ⟨arr, q1, q2, q3⟩
            exact ⟨arr, q1, q2.take _, q3⟩
          · exact ⟨b', s2 id2 b' h2 e1, rfl, rfl, fun _ => rfl, fun _ h => h⟩
        obtain ⟨r, c, hm, hc, rfl⟩ := hS
        obtain ⟨r', hm', hN, hlt, arr, ho, hpre, hcap⟩ := hr.blk id _ hb rfl
        rw [hm] at hm'; cases hm'
        simp only [exOk] at hc
        obtain ⟨_, hc⟩ := hc
        simp only [capOk, ← hc] at hcap
        have hdrew : (w.drew).heap[r]? = some (.cells arr elem (0, 0)) := ho
        by_cases hroom : len + n ≤ lb + c
        · -- in place
          obtain ⟨O, hO, hOv, hOl⟩ := hold N μ w _ hr ⟨r, c, hm, ⟨⟨r, hm⟩, hc⟩, rfl⟩
          obtain ⟨A, hA, hAv, hAl⟩ := hnew N μ w X hr hX
          have hAs := lenA hAv hl hAl
          have hmul : (len + n) * (size' + 1) ≤ (lb + c) * (size' + 1) := Nat.mul_le_mul_right _ hroom
          have hOe : O = ((arr.toList.drop 0).take (len * (size' + 1))).toArray := by
            have h2 : (loadCells ⟨r, 0, none⟩ (len * (size' + 1))).run P w = .ok O w := hO
            rw [run_cells ho (by omega)] at h2
            injection h2 with h3 _; exact h3.symm
          have hfit : len * (size' + 1) + A.toList.length ≤ arr.size := by
            have : A.toList.length = A.size := rfl
            omega
          have hsum : len + n + (lb + c - (len + n)) = lb + c := by omega
          have hover := Post.over (G := G) (N := N) hpsub.rel hf0 s1 hm ho hfit s3 (x := lb + c - (len + n)) (need := len + n) (size := size' + 1) (cs := old ++ new) (by rw [hsum]; exact hcap) (by
            refine ⟨O.toList ++ A.toList, arr.toList.drop (len * (size' + 1) + A.toList.length), ?_, ?_⟩
            · unfold aput; rw [hOe]; simp
            · exact ((hOv.append hAv)).mono (Mu.le_new hf0))
          have hp := Post.grps (Post.trans hpsub hover (by omega) (by simp [St.push])) hheap (by rw [hn']; simp [St.push]; omega)
          refine ⟨_, _, _, run_append_room (base := some ⟨r, 0, none⟩) (len := len) (cap := lb + c) (w' := wput w r (.cells (aput arr (len * (size' + 1)) A.toList) elem (0, 0))) hu hsrc hi hl hroom (by rw [his]; exact hA) ?_, hp, ?_⟩
          · simp only [add_mid, his]
            have := run_storeCells (P := P) (r := r) (off := 0 + len * (size' + 1)) A.toList 0 w arr ho (by simpa using hfit) (by intro j _; simp [frz]) (allOne_VR hAv hone)
            simpa using this
          · have := VR.slc_new (μ := μ) (n := st1.next) (r := r) (x := lb + c - (len + n)) (need := len + n)
            rw [hsum] at this
            rw [hn1] at this ⊢; exact this
        · -- to a new row
          obtain ⟨O, hO, hOv, hOl⟩ := hold N μ w.drew _ hr.drew ⟨r, c, hm, ⟨⟨r, hm⟩, hc⟩, rfl⟩
          obtain ⟨A, hA, hAv, hAl⟩ := hnew N μ w.drew X hr.drew hX
          have hAs := lenA hAv hl hAl
          have hOs := lenA hOv (fun w => rfl) hOl
          obtain ⟨x, hx⟩ := run_append_new (type := type) (base := some ⟨r, 0, none⟩) (len := len) (cap := lb + c) (w := w) hu hsrc hi hiz hl (by omega) (by omega) (by rw [hib]; exact hsm) (O := O) (by rw [his]; exact hO) (by rw [his]; exact hA)
          have hnr := Post.newRow (G := G) (N := N) (elem := elem) (g := grp) (need := len + n) (size := size' + 1) (x := x) hpsub.rel hf0 (cs := old ++ new) (A := O ++ A ++ Builtin.zeroCells Z.cells x)
            ⟨(O ++ A).toList, (Builtin.zeroCells Z.cells x).toList, by simp, by rw [Array.toList_append]; exact hOv.append hAv⟩
            (by simp only [Array.size_append, hzc, hAs, hOs]; rw [Nat.add_mul, Nat.add_mul]; exact Nat.le_refl _)
          have hp := Post.grps (Post.trans hpsub hnr (by omega) (by simp [St.push])) hheap (by rw [hn']; simp [St.push]; omega)
          refine ⟨_, _, _, hx, hp, ?_⟩
          have := VR.slc_new (μ := μ) (n := st1.next) (r := w.heap.size) (x := x) (need := len + n)
          rw [hn1] at this ⊢; exact this
  · cases h
end
end Go.Shd
/- Operations, one by one: what it is for the shadow of an operation to be sound; the plain ones. -/
namespace Go.Shd
noncomputable section
variable {G : Globals} {P : Program}

/-- What the model's operation comes to, against what the shadow says. -/
def OutR (μ : Mu) (st : St) (w : World) (nx : ONext) (r : Result Next) : Prop :=
  match nx with
  | .val v => (∃ V, r = .ok (.value V) w ∧ VR μ v V) ∨ (r = .ok .skip w ∧ v = aundef)
  | .enter f args => ∃ A : Array Value, r = .ok (.enter f A) w ∧ VRs μ args A.toList
  | .round l f tm assign body => ∃ b T, μ.b l = some b ∧ r = .ok (.round b f T assign body) w ∧
      ∀ s p g t sz ps a c d, st.heap.get (key l) = some (.loop s p g t sz ps a c d) → TR μ tm sz T
  | .dfr d => ∃ C A : Array Value, r = .ok (.defer { target := .fn (.func d.f) C, args := A }) w ∧ VRs μ d.args (A.toList ++ C.toList)
  | .recov => r = .ok .recover w
  | .panic v => ∃ V, r = .halt (.panic V) w ∧ VR μ v V

/-- The shadow of an operation is sound. -/
def Sound (P : Program) (G : Globals) (o : Oper) (tm : T AV) (st : St) (K : ONext → St → Bool) : Prop :=
  ∃ nx st', K nx st' = true ∧ st.next ≤ st'.next ∧ (Wf st → Wf st') ∧
    ∀ N μ w ρ, Wf st → Fresh μ st.next st'.next → Rel G N μ st w → (∀ x ∈ o.op.operands, OpR μ tm ρ x) →
      ∃ μ' w', Post G N st μ w st' μ' w' ∧ OutR μ' st' w' nx ((execOp ρ o).run P w)

/-- It hands back a value and leaves all as it was. -/
def SameS (P : Program) (G : Globals) (o : Oper) (tm : T AV) (st : St) (K : ONext → St → Bool) : Prop :=
  ∃ v, K (.val v) st = true ∧ ∀ N μ w ρ, Wf st → Rel G N μ st w → (∀ x ∈ o.op.operands, OpR μ tm ρ x) → ∃ V, (execOp ρ o).run P w = .ok (.value V) w ∧ VR μ v V

/-- It makes one block. -/
def MakeS (P : Program) (G : Globals) (o : Oper) (tm : T AV) (st : St) (K : ONext → St → Bool) : Prop :=
  ∃ v b, K (.val v) (st.push b) = true ∧ b.open = true ∧ (∀ g, b.grp? = some g → g = st.next) ∧
    ∀ N μ w ρ, Wf st → Rel G N μ st w → (∀ x ∈ o.op.operands, OpR μ tm ρ x) → μ.b st.next = none → ∃ V ob, (execOp ρ o).run P w = .ok (.value V) (w.alloc ob) ∧
      BR (μ.new st.next w.heap.size 0) st.next b (some ob) ∧ VR (μ.new st.next w.heap.size 0) v V

/-- Sound, and of what kind. -/
def SoundX (P : Program) (G : Globals) (o : Oper) (tm : T AV) (st : St) (K : ONext → St → Bool) : Prop :=
  Sound P G o tm st K ∧ (SameS P G o tm st K ∨ MakeS P G o tm st K ∨ (kindOf o.op).eff = true)

theorem Sound.same {o : Oper} {tm : T AV} {st : St} {K : ONext → St → Bool} {v : AV} (hk : K (.val v) st = true)
    (h : ∀ N μ w ρ, Wf st → Rel G N μ st w → (∀ x ∈ o.op.operands, OpR μ tm ρ x) → ∃ V, (execOp ρ o).run P w = .ok (.value V) w ∧ VR μ v V) : SoundX P G o tm st K :=
  ⟨⟨_, st, hk, Nat.le_refl _, fun h => h, fun N μ w ρ hw _ hr hx => by
    obtain ⟨V, h1, h2⟩ := h N μ w ρ hw hr hx
    exact ⟨μ, w, Post.refl hr, .inl ⟨V, h1, h2⟩⟩⟩, .inl ⟨v, hk, h⟩⟩

theorem Sound.skip {o : Oper} {tm : T AV} {st st' : St} {K : ONext → St → Bool} (hl : (kindOf o.op).eff = true) (hk : K (.val aundef) st' = true) (hn : st'.next = st.next) (hwf : Wf st → Wf st')
    (h : ∀ N μ w ρ, Wf st → Rel G N μ st w → (∀ x ∈ o.op.operands, OpR μ tm ρ x) → ∃ w', (execOp ρ o).run P w = .ok .skip w' ∧ Post G N st μ w st' μ w') : SoundX P G o tm st K :=
  ⟨⟨_, st', hk, by omega, hwf, fun N μ w ρ hw _ hr hx => by
    obtain ⟨w', h1, h2⟩ := h N μ w ρ hw hr hx
    exact ⟨μ, w', h2, .inr ⟨h1, rfl⟩⟩⟩, .inr (.inr hl)⟩

/-- An operation that makes one block. -/
theorem Sound.make {o : Oper} {tm : T AV} {st : St} {K : ONext → St → Bool} {v : AV} {b : Blk} (hk : K (.val v) (st.push b) = true) (hop : b.open = true) (hg : ∀ g, b.grp? = some g → g = st.next)
    (h : ∀ N μ w ρ, Wf st → Rel G N μ st w → (∀ x ∈ o.op.operands, OpR μ tm ρ x) → μ.b st.next = none → ∃ V ob, (execOp ρ o).run P w = .ok (.value V) (w.alloc ob) ∧
      BR (μ.new st.next w.heap.size 0) st.next b (some ob) ∧ VR (μ.new st.next w.heap.size 0) v V) : SoundX P G o tm st K :=
  ⟨⟨_, _, hk, by simp [St.push], fun hw => hw.push _ hg, fun N μ w ρ hw hf hr hx => by
    have hf0 : μ.b st.next = none := hf _ (Nat.le_refl _) (by simp [St.push])
    obtain ⟨V, ob, h1, h2, h3⟩ := h N μ w ρ hw hr hx hf0
    exact ⟨_, _, Post.new hr hf0 b hop ob 0 h2, .inl ⟨V, h1, h3⟩⟩⟩, .inr (.inl ⟨v, b, hk, hop, hg, h⟩)⟩

section ops
variable {o : Oper} {tm : T AV} {st : St} {K : ONext → St → Bool}

theorem sound_move {x : Operand} (ho : o.op = .move x ∨ o.op = .assign x) (h : evK tm x (fun v => K (.val v) st) = true) : SoundX P G o tm st K := by
  obtain ⟨v, hk, hv⟩ := evK_true h
  refine Sound.same hk fun N μ w ρ _ hr hx => ⟨ρ x, ?_, hv μ ρ (hx x (by rcases ho with ho | ho <;> simp [ho, Op.operands]))⟩
  rcases ho with ho | ho <;> simp [execOp, ho]

theorem sound_pick {c a b : Operand} (ho : o.op = .pick c a b) (h : evK tm c (fun c => match c with
    | .lit (.bool true) => evK tm a fun v => K (.val v) st
    | .lit (.bool false) => evK tm b fun v => K (.val v) st
    | _ => false) = true) : SoundX P G o tm st K := by
  obtain ⟨cv, h, hc⟩ := evK_true h
  split at h
  · obtain ⟨v, hk, hv⟩ := evK_true h
    refine Sound.same hk fun N μ w ρ _ hr hx => ⟨ρ a, ?_, hv μ ρ (hx a (by simp [ho, Op.operands]))⟩
    have := hc μ ρ (hx c (by simp [ho, Op.operands]))
    simp only [VR] at this
    simp [execOp, ho, this, asBool]
  · obtain ⟨v, hk, hv⟩ := evK_true h
    refine Sound.same hk fun N μ w ρ _ hr hx => ⟨ρ b, ?_, hv μ ρ (hx b (by simp [ho, Op.operands]))⟩
    have := hc μ ρ (hx c (by simp [ho, Op.operands]))
    simp only [VR] at this
    simp [execOp, ho, this, asBool]
  · cases h

theorem sound_alloc {e : TypeId} (ho : o.op = .alloc e) (h : (match zeroOf P e with
    | some z => newRowK st z e fun id st => K (.val (.ptr id 0)) st
    | none => false) = true) : SoundX P G o tm st K := by
  split at h
  case h_2 => cases h
  rename_i z hz
  rw [newRowK_push] at h
  refine Sound.make h rfl (by intro g hg; simp [Blk.grp?] at hg; exact hg.symm) fun N μ w ρ _ hr hx hf => ?_
  obtain ⟨Z, h1, h2⟩ := zeroOf_run (P := P) hz (μ.new st.next w.heap.size 0) w
  refine ⟨.pointer (some ⟨w.heap.size, 0, none⟩), .cells Z.cells e, ?_, ⟨Z.cells, rfl, ⟨Z.cells.toList, [], by simp, h2⟩, trivial⟩, ⟨w.heap.size, by simp [Mu.new], rfl⟩⟩
  simp [execOp, ho, Instr.alloc, h1, newVar, newRow]

theorem sound_box {e : TypeId} {x : Operand} (ho : o.op = .box e x) (h : evK tm x (fun v => match v with
    | .lit (.agg _) => false
    | _ => newRowK st (cellsOf v) e fun id st => K (.val (.ptr id 0)) st) = true) : SoundX P G o tm st K := by
  obtain ⟨v, h, hv⟩ := evK_true h
  split at h
  case h_1 => cases h
  rename_i hnl
  rw [newRowK_push] at h
  refine Sound.make h rfl (by intro g hg; simp [Blk.grp?] at hg; exact hg.symm) fun N μ w ρ _ hr hx hf => ?_
  have h2 := VR.mono (Mu.le_new (r := w.heap.size) (x := 0) hf) _ _ (hv μ ρ (hx x (by simp [ho, Op.operands])))
  refine ⟨.pointer (some ⟨w.heap.size, 0, none⟩), .cells (ρ x).cells e, ?_, ⟨(ρ x).cells, rfl, ⟨(ρ x).cells.toList, [], by simp, VR_cells h2 (fun w hw => hnl w hw)⟩, trivial⟩, ⟨w.heap.size, by simp [Mu.new], rfl⟩⟩
  simp [execOp, ho, Instr.box, newVar, newRow]

theorem sound_load {t : TypeId} {a : Operand} (ho : o.op = .load t a) (h : evK tm a (fun a => loadK P G st t a fun v => K (.val v) st) = true) : SoundX P G o tm st K := by
  obtain ⟨av, h, ha⟩ := evK_true h
  obtain ⟨v, hk, hv⟩ := loadK_true h
  refine Sound.same hk fun N μ w ρ _ hr hx => ?_
  obtain ⟨V, r, off, e1, h1, h2⟩ := hv N μ w _ hr (ha μ ρ (hx a (by simp [ho, Op.operands])))
  exact ⟨V, by simp [execOp, ho, Instr.loadAt, Instr.sureAddr, e1, h1], h2⟩

theorem sound_store {t : TypeId} {a x : Operand} (ho : o.op = .store t a x) (h : evK tm a (fun a => evK tm x fun x => storeK P st t a x fun st => K (.val aundef) st) = true) : SoundX P G o tm st K := by
  obtain ⟨av, h, ha⟩ := evK_true h
  obtain ⟨xv, h, hxv⟩ := evK_true h
  obtain ⟨st', hk, hn, hwf, hs⟩ := storeK_true (G := G) h
  refine Sound.skip (by first | (rw [ho]; rfl) | (rcases ho with ho | ho <;> rw [ho] <;> rfl)) hk hn hwf fun N μ w ρ hw hr hx => ?_
  obtain ⟨r, off, w', e1, h1, h2⟩ := hs N μ w _ _ hw hr (ha μ ρ (hx a (by simp [ho, Op.operands]))) (hxv μ ρ (hx x (by simp [ho, Op.operands])))
  exact ⟨w', by simp [execOp, ho, Instr.storeAt, Instr.sureAddr, e1, h1], h2⟩

theorem sound_nilCheck {x : Operand} (ho : o.op = .nilCheck x) (h : evK tm x (fun v => match v with
    | .ptr _ _ | .gptr _ _ | .ifc _ _ | .fn _ _ _ => K (.val v) st
    | _ => false) = true) : SoundX P G o tm st K := by
  obtain ⟨v, h, hv⟩ := evK_true h
  have key : K (.val v) st = true ∧ ∀ μ V, VR μ v V → (∃ a, V = .pointer (some a)) ∨ (∃ t w, V = .iface t w) ∨ (∃ f a b, V = .func (.func f) a b) := by
    split at h
    · exact ⟨h, fun μ V hV => by obtain ⟨r, _, rfl⟩ := hV; exact .inl ⟨_, rfl⟩⟩
    · exact ⟨h, fun μ V hV => by simp only [VR] at hV; subst hV; exact .inl ⟨_, rfl⟩⟩
    · exact ⟨h, fun μ V hV => by obtain ⟨W, rfl, _⟩ := hV; exact .inr (.inl ⟨_, _, rfl⟩)⟩
    · exact ⟨h, fun μ V hV => by obtain ⟨A, B, rfl, _⟩ := hV; exact .inr (.inr ⟨_, _, _, rfl⟩)⟩
    · cases h
  refine Sound.same key.1 fun N μ w ρ _ hr hx => ⟨ρ x, ?_, hv μ ρ (hx x (by simp [ho, Op.operands]))⟩
  rcases key.2 μ _ (hv μ ρ (hx x (by simp [ho, Op.operands]))) with ⟨a, e⟩ | ⟨t, v', e⟩ | ⟨f, a, b, e⟩ <;> simp [execOp, ho, e]

theorem sound_makeInterface {t : TypeId} {x : Operand} (ho : o.op = .makeInterface t x) (h : evK tm x (fun v => match und P t with
    | some (.interface _) => false
    | some _ => K (.val (.ifc t v)) st
    | none => false) = true) : SoundX P G o tm st K := by
  obtain ⟨v, h, hv⟩ := evK_true h
  split at h
  · cases h
  · rename_i d hd hu
    refine Sound.same h fun N μ w ρ _ hr hx => ⟨.iface t (ρ x), ?_, ⟨ρ x, rfl, hv μ ρ (hx x (by simp [ho, Op.operands]))⟩⟩
    simp [execOp, ho, Instr.makeInterface, run_underlying (und_some P hu)]
  · cases h

theorem sound_makeFunc {f : FuncId} {first capt : Array Operand} (ho : o.op = .makeFunc (.func f) first capt)
    (h : evsK tm first.toList (fun a => evsK tm capt.toList fun b => K (.val (.fn f a b)) st) = true) : SoundX P G o tm st K := by
  obtain ⟨a, h, ha⟩ := evsK_true h
  obtain ⟨b, h, hb⟩ := evsK_true h
  refine Sound.same h fun N μ w ρ _ hr hx => ⟨.func (.func f) (first.map ρ) (capt.map ρ), by simp [execOp, ho, Instr.makeFunc], ⟨_, _, rfl, ?_, ?_⟩⟩
  · simpa using ha μ ρ (fun x hx' => hx x (by simp [ho, Op.operands]; exact .inl (by simpa using hx')))
  · simpa using hb μ ρ (fun x hx' => hx x (by simp [ho, Op.operands]; exact .inr (by simpa using hx')))

theorem sound_extract {x : Operand} {i : Nat} (ho : o.op = .extract x i) (h : evK tm x (fun v => match v with
    | .tup l => nthK i l fun v => K (.val v) st
    | _ => false) = true) : SoundX P G o tm st K := by
  obtain ⟨v, h, hv⟩ := evK_true h
  split at h
  case h_2 => cases h
  rename_i l
  obtain ⟨y, hy, hk⟩ := nthK_true h
  refine Sound.same hk fun N μ w ρ _ hr hx => ?_
  obtain ⟨A, e, hA⟩ := hv μ ρ (hx x (by simp [ho, Op.operands]))
  obtain ⟨V, hV, hV2⟩ := hA.get hy
  have : A[i]? = some V := by simpa using hV
  exact ⟨V, by simp [execOp, ho, Instr.extract, e, this], hV2⟩
end ops
end
end Go.Shd
/- Operations: addresses, parts, slices, literals. -/
namespace Go.Shd
noncomputable section
variable {G : Globals} {P : Program} {o : Oper} {tm : T AV} {st : St} {K : ONext → St → Bool}

theorem partK_true {t : TypeId} {cs : List AV} {off : Nat} {K : AV → Bool} (h : partK P t cs off K = true) : ∃ v, K v = true ∧
    ∀ μ w (A : Array Value), VRs μ cs A.toList → ∃ V, (part t A off).run P w = .ok V w ∧ VR μ v V := by
  unfold partK at h
  split at h
  · rename_i hagg
    split at h
    · rename_i n hn
      obtain ⟨h1, h2⟩ := cutK_true h
      refine ⟨_, h2, fun μ w A hA => ⟨.agg (A.extract off (off + n)), ?_, ⟨_, rfl, ?_⟩⟩⟩
      · simp [part, aggOf_run hagg, sizeOf_run hn]
      · have := (hA.drop off).take n
        simpa [List.extract_eq_take_drop] using this
    · cases h
  · rename_i hagg
    obtain ⟨v, hv, hk⟩ := nthK_true h
    refine ⟨v, hk, fun μ w A hA => ?_⟩
    obtain ⟨V, hV, hV2⟩ := hA.get hv
    have : A[off]? = some V := by simpa using hV
    exact ⟨V, by simp [part, aggOf_run hagg, this], hV2⟩
  · cases h

theorem fieldOf_some {s : TypeId} {f : Nat} {fd : Field} (h : fieldOf P s f = some fd) : ∃ fs, P.underlying s = some (.struct fs) ∧ fs[f]? = some fd := by
  unfold fieldOf at h
  split at h
  · rename_i fs hu; exact ⟨fs, und_some P hu, h⟩
  · cases h

theorem sound_field {t : TypeId} {x : Operand} {f : Nat} (ho : o.op = .field t x f) (h : evK tm x (fun v => match fieldOf P t f, v with
    | some fd, .agg cs => partK P fd.type cs fd.offset fun v => K (.val v) st
    | _, _ => false) = true) : SoundX P G o tm st K := by
  obtain ⟨v, h, hv⟩ := evK_true h
  split at h
  case h_2 => cases h
  rename_i fd cs hf
  obtain ⟨fs, hu, hfd⟩ := fieldOf_some hf
  obtain ⟨y, hk, hy⟩ := partK_true h
  refine Sound.same hk fun N μ w ρ _ hr hx => ?_
  obtain ⟨A, e, hA⟩ := hv μ ρ (hx x (by simp [ho, Op.operands]))
  obtain ⟨V, h1, h2⟩ := hy μ w A hA
  exact ⟨V, by simp [execOp, ho, Instr.field, run_underlying hu, hfd, e, asAgg, h1], h2⟩

theorem sound_fieldAddr {s : TypeId} {x : Operand} {f : Nat} (ho : o.op = .fieldAddr s x f) (h : evK tm x (fun v => match fieldOf P s f with
    | some fd => match sizeOf? P fd.type with
      | some (_ + 1) => match v with
        | .ptr id o => natK (Nat.add o fd.offset) fun o => K (.val (.ptr id o)) st
        | .gptr g o => natK (Nat.add o fd.offset) fun o => K (.val (.gptr g o)) st
        | _ => false
      | _ => false
    | none => false) = true) : SoundX P G o tm st K := by
  obtain ⟨v, h, hv⟩ := evK_true h
  split at h
  case h_2 => cases h
  rename_i fd hf
  obtain ⟨fs, hu, hfd⟩ := fieldOf_some hf
  split at h
  case h_2 => cases h
  rename_i n hn
  split at h
  · rw [natK_eq] at h
    refine Sound.same h fun N μ w ρ _ hr hx => ?_
    obtain ⟨r, hm, e⟩ := hv μ ρ (hx x (by simp [ho, Op.operands]))
    exact ⟨_, by simp [execOp, ho, Instr.fieldAt, run_underlying hu, hfd, e, Instr.sureAddr, fieldPlace, sizeOf_run hn, add_mid], ⟨r, hm, rfl⟩⟩
  · rw [natK_eq] at h
    refine Sound.same h fun N μ w ρ _ hr hx => ?_
    have e := hv μ ρ (hx x (by simp [ho, Op.operands]))
    simp only [VR] at e
    exact ⟨_, by simp [execOp, ho, Instr.fieldAt, run_underlying hu, hfd, e, Instr.sureAddr, fieldPlace, sizeOf_run hn, add_mid], rfl⟩
  · cases h

theorem sound_indexAddr {t : TypeId} {x ix : Operand} (ho : o.op = .indexAddr t x ix) (h : evK tm x (fun v => evK tm ix fun i => match i with
    | .int _ (.ofNat i) => match und P t, v with
      | some (.array len e), .ptr id o => match Nat.blt i len, sizeOf? P e with
        | true, some n => natK (Nat.add o (Nat.mul i n)) fun o => K (.val (.ptr id o)) st
        | _, _ => false
      | some (.array len e), .gptr g o => match Nat.blt i len, sizeOf? P e with
        | true, some n => natK (Nat.add o (Nat.mul i n)) fun o => K (.val (.gptr g o)) st
        | _, _ => false
      | some (.slice e), .slc id o len _ _ => match Nat.blt i len, sizeOf? P e with
        | true, some n => natK (Nat.add o (Nat.mul i n)) fun o => K (.val (.ptr id o)) st
        | _, _ => false
      | some (.slice e), .lit (.slice (some ⟨g, o, none⟩) len _) => match Nat.blt i len, sizeOf? P e with
        | true, some n => natK (Nat.add o (Nat.mul i n)) fun o => K (.val (.gptr g o)) st
        | _, _ => false
      | _, _ => false
    | _ => false) = true) : SoundX P G o tm st K := by
  obtain ⟨v, h1, hv⟩ := evK_true h
  clear h
  obtain ⟨iv, h, hi⟩ := evK_true h1
  clear h1
  split at h
  case h_2 => cases h
  rename_i k i
  have hint : ∀ μ ρ, (∀ x ∈ o.op.operands, OpR μ tm ρ x) → ρ ix = .int k (i : Int) := fun μ ρ hx => by
    have := hi μ ρ (hx ix (by simp [ho, Op.operands]))
    simp only [VR] at this; exact this
  split at h
  · rename_i len e id off hu
    split at h
    case h_2 => cases h
    rename_i n hlt hn
    have hlt := of_blt hlt
    rw [natK_eq] at h
    refine Sound.same h fun N μ w ρ _ hr hx => ?_
    obtain ⟨r, hm, e1⟩ := hv μ ρ (hx x (by simp [ho, Op.operands]))
    exact ⟨_, by simp [execOp, ho, Instr.indexAt, hint μ ρ hx, asIntOf, run_underlying (und_some P hu), e1, Instr.sureAddr, hlt, sizeOf_run hn, add_mid], ⟨r, hm, rfl⟩⟩
  · rename_i len e g off hu
    split at h
    case h_2 => cases h
    rename_i n hlt hn
    have hlt := of_blt hlt
    rw [natK_eq] at h
    refine Sound.same h fun N μ w ρ _ hr hx => ?_
    have e1 := hv μ ρ (hx x (by simp [ho, Op.operands]))
    simp only [VR] at e1
    exact ⟨_, by simp [execOp, ho, Instr.indexAt, hint μ ρ hx, asIntOf, run_underlying (und_some P hu), e1, Instr.sureAddr, hlt, sizeOf_run hn, add_mid], rfl⟩
  · rename_i e id off len lb ex hu
    split at h
    case h_2 => cases h
    rename_i n hlt hn
    have hlt := of_blt hlt
    rw [natK_eq] at h
    refine Sound.same h fun N μ w ρ _ hr hx => ?_
    obtain ⟨r, c, hm, hc, e1⟩ := hv μ ρ (hx x (by simp [ho, Op.operands]))
    exact ⟨_, by simp [execOp, ho, Instr.indexAt, hint μ ρ hx, asIntOf, run_underlying (und_some P hu), e1, hlt, sizeOf_run hn, add_mid], ⟨r, hm, rfl⟩⟩
  · rename_i e g off len cap hu
    split at h
    case h_2 => cases h
    rename_i n hlt hn
    have hlt := of_blt hlt
    rw [natK_eq] at h
    refine Sound.same h fun N μ w ρ _ hr hx => ?_
    have e1 := hv μ ρ (hx x (by simp [ho, Op.operands]))
    simp only [VR] at e1
    exact ⟨_, by simp [execOp, ho, Instr.indexAt, hint μ ρ hx, asIntOf, run_underlying (und_some P hu), e1, hlt, sizeOf_run hn, add_mid], rfl⟩
  · cases h

theorem bytesOf_get {s : ByteArray} {i b : Nat} (h : (bytesOf s)[i]? = some b) : ∃ c, s[i]? = some c ∧ c.toNat = b := by
  unfold bytesOf at h
  rw [List.getElem?_map] at h
  obtain ⟨c, hc, rfl⟩ := Option.map_eq_some_iff.1 h
  obtain ⟨hlt, he⟩ := List.getElem?_eq_some_iff.1 hc
  have hlt' : i < s.size := by simpa using hlt
  refine ⟨c, ?_, rfl⟩
  rw [getElem?_pos s i hlt']
  exact congrArg some he

theorem sound_index {t : TypeId} {x ix : Operand} (ho : o.op = .index t x ix) (h : evK tm x (fun v => evK tm ix fun i => match i with
    | .int _ (.ofNat i) => match und P t, v with
      | some (.array len e), .agg cs => match Nat.blt i len, sizeOf? P e with
        | true, some n => partK P e cs (Nat.mul i n) fun v => K (.val v) st
        | _, _ => false
      | some .string, .str s => nthK i s fun b => K (.val (.int .u8 (Int.ofNat b))) st
      | _, _ => false
    | _ => false) = true) : SoundX P G o tm st K := by
  obtain ⟨v, h1, hv⟩ := evK_true h
  clear h
  obtain ⟨iv, h, hi⟩ := evK_true h1
  clear h1
  split at h
  case h_2 => cases h
  rename_i k i
  have hint : ∀ μ ρ, (∀ x ∈ o.op.operands, OpR μ tm ρ x) → ρ ix = .int k (i : Int) := fun μ ρ hx => by
    have := hi μ ρ (hx ix (by simp [ho, Op.operands]))
    simp only [VR] at this; exact this
  split at h
  · rename_i len e cs hu
    split at h
    case h_2 => cases h
    rename_i n hlt hn
    have hlt := of_blt hlt
    obtain ⟨y, hk, hy⟩ := partK_true h
    refine Sound.same hk fun N μ w ρ _ hr hx => ?_
    obtain ⟨A, e1, hA⟩ := hv μ ρ (hx x (by simp [ho, Op.operands]))
    obtain ⟨V, h1, h2⟩ := hy μ w A hA
    simp only [Nat.mul_eq] at h1
    exact ⟨V, by simp [execOp, ho, Instr.index, hint μ ρ hx, asIntOf, run_underlying (und_some P hu), e1, hlt, sizeOf_run hn, h1], h2⟩
  · rename_i s hu
    obtain ⟨b, hb, hk⟩ := nthK_true h
    refine Sound.same hk fun N μ w ρ _ hr hx => ?_
    obtain ⟨S, e1, hS⟩ := hv μ ρ (hx x (by simp [ho, Op.operands]))
    rw [← hS] at hb
    obtain ⟨c, hc, rfl⟩ := bytesOf_get hb
    exact ⟨_, by simp [execOp, ho, Instr.index, hint μ ρ hx, asIntOf, run_underlying (und_some P hu), e1, hc], rfl⟩
  · cases h
end
end Go.Shd
/- Operations: slicing. -/
namespace Go.Shd
noncomputable section
variable {G : Globals} {P : Program} {o : Oper} {tm : T AV} {st : St} {K : ONext → St → Bool}

/-- An operand that may be left out. -/
def OVR (μ : Mu) (ov : Option AV) (V : Option Value) : Prop :=
  match ov, V with
  | none, none => True
  | some a, some A => VR μ a A
  | _, _ => False

theorem evO_true {x : Option Operand} {k : Option AV → Bool} (h : evOK tm x k = true) : ∃ ov, k ov = true ∧ ∀ μ ρ, (∀ y, x = some y → OpR μ tm ρ y) → OVR μ ov (x.map ρ) := by
  cases x with
  | none => exact ⟨none, h, fun _ _ _ => trivial⟩
  | some y =>
    obtain ⟨v, hk, hv⟩ := evK_true h
    exact ⟨some v, hk, fun μ ρ hy => hv μ ρ (hy y rfl)⟩

theorem boundK_true {v : AV} {hi : Nat} {K : Nat → Bool} (h : boundK v hi K = true) : ∃ k n, v = .int k (Int.ofNat n) ∧ n ≤ hi ∧ K n = true := by
  unfold boundK at h
  split at h
  · rename_i k n
    split at h
    · rename_i hle; exact ⟨k, n, rfl, of_ble hle, h⟩
    · cases h
  · cases h

theorem optK_true {v : Option AV} {d hi : Nat} {K : Nat → Bool} (h : optK v d hi K = true) : ∃ n, K n = true ∧ ((v = none ∧ n = d) ∨ ∃ k, v = some (.int k (Int.ofNat n)) ∧ n ≤ hi) := by
  unfold optK at h
  split at h
  · exact ⟨d, h, .inl ⟨rfl, rfl⟩⟩
  · obtain ⟨k, n, rfl, h1, h2⟩ := boundK_true h
    exact ⟨n, h2, .inr ⟨k, rfl, h1⟩⟩

theorem run_sliceBound {w : World} {k : IntKind} {n y : Nat} {code : BoundsCode} (h : n ≤ y) : (Instr.sliceBound (.int k (Int.ofNat n)) y code).run P w = .ok n w := by
  have : ((n : Int)) ≤ (y : Int) := by omega
  simp [Instr.sliceBound, asIntOf, h]

/-- The bounds of a slicing. -/
theorem run_bounds {w : World} {μ : Mu} {isSlice : Bool} {len cap : Nat} {lo hi : Option AV} {LO HI : Option Value} (h1 : OVR μ lo LO) (h2 : OVR μ hi HI)
    {h l : Nat} (hh : (hi = none ∧ h = len) ∨ ∃ k, hi = some (.int k (Int.ofNat h)) ∧ h ≤ cap) (hl : (lo = none ∧ l = 0) ∨ ∃ k, lo = some (.int k (Int.ofNat l)) ∧ l ≤ h) :
    (Instr.sliceBounds isSlice len cap LO HI none).run P w = .ok (l, h, cap) w := by
  have e2 : (hi = none ∧ HI = none ∧ h = len) ∨ ∃ k, HI = some (.int k (Int.ofNat h)) ∧ h ≤ cap := by
    rcases hh with ⟨rfl, rfl⟩ | ⟨k, rfl, hle⟩
    · cases HI with
      | none => exact .inl ⟨rfl, rfl, rfl⟩
      | some => exact absurd h2 (by simp [OVR])
    · cases HI with
      | none => exact absurd h2 (by simp [OVR])
      | some v => simp only [OVR, VR] at h2; exact .inr ⟨k, by rw [h2], hle⟩
  have e1 : (LO = none ∧ l = 0) ∨ ∃ k, LO = some (.int k (Int.ofNat l)) ∧ l ≤ h := by
    rcases hl with ⟨rfl, rfl⟩ | ⟨k, rfl, hle⟩
    · cases LO with
      | none => exact .inl ⟨rfl, rfl⟩
      | some => exact absurd h1 (by simp [OVR])
    · cases LO with
      | none => exact absurd h1 (by simp [OVR])
      | some v => simp only [OVR, VR] at h1; exact .inr ⟨k, by rw [h1], hle⟩
  rcases e2 with ⟨_, rfl, rfl⟩ | ⟨k, rfl, hle⟩ <;> rcases e1 with ⟨rfl, rfl⟩ | ⟨k', rfl, hle'⟩ <;>
    simp [Instr.sliceBounds, *] <;> simp [Instr.sliceBound, asIntOf, *]

theorem run_bounds3 {w : World} {μ : Mu} {isSlice : Bool} {len cap : Nat} {lo : Option AV} {LO : Option Value} {hv mv : AV} {HV MV : Value} (h1 : OVR μ lo LO) (h2 : VR μ hv HV) (h3 : VR μ mv MV)
    {h l m : Nat} {k k2 : IntKind} (hm : mv = .int k (Int.ofNat m)) (hml : m ≤ cap) (hh : hv = .int k2 (Int.ofNat h)) (hhl : h ≤ m) (hl : (lo = none ∧ l = 0) ∨ ∃ k, lo = some (.int k (Int.ofNat l)) ∧ l ≤ h) :
    (Instr.sliceBounds isSlice len cap LO (some HV) (some MV)).run P w = .ok (l, h, m) w := by
  subst hm; subst hh
  simp only [VR] at h2 h3
  subst h2; subst h3
  have e1 : (LO = none ∧ l = 0) ∨ ∃ k, LO = some (.int k (Int.ofNat l)) ∧ l ≤ h := by
    rcases hl with ⟨rfl, rfl⟩ | ⟨k, rfl, hle⟩
    · cases LO with
      | none => exact .inl ⟨rfl, rfl⟩
      | some => exact absurd h1 (by simp [OVR])
    · cases LO with
      | none => exact absurd h1 (by simp [OVR])
      | some v => simp only [OVR, VR] at h1; exact .inr ⟨k, by rw [h1], hle⟩
  rcases e1 with ⟨rfl, rfl⟩ | ⟨k', rfl, hle'⟩ <;> simp [Instr.sliceBounds, Instr.sliceBound, asIntOf, *]

/-- What a slicing of a slice (or of an array through its address) comes to, behind its bounds. -/
theorem sliceK_true {size : Nat} {x : AV} {lo hi mx : Option AV} {K : AV → Bool} (h : sliceK size x lo hi mx K = true) : ∃ v, K v = true ∧
    ∀ μ w (isSlice : Bool) X LO HI MX, VR μ x X → OVR μ lo LO → OVR μ hi HI → OVR μ mx MX → ∃ a len cap l h m, X = .slice a len cap ∧ (Instr.sliceBounds isSlice len cap LO HI MX).run P w = .ok (l, h, m) w ∧
      VR μ v (.slice (if m = l then a else a.map (·.add (l * size))) (h - l) (m - l)) := by
  unfold sliceK at h
  split at h
  · -- of nil
    split at h
    case h_2 => cases h
    obtain ⟨hh, h2, hhi⟩ := optK_true h
    clear h
    obtain ⟨l, h, hl⟩ := optK_true h2
    clear h2
    refine ⟨_, h, fun μ w isSlice X LO HI MX hX hLO hHI hMX => ?_⟩
    simp only [VR] at hX; subst hX
    have hh0 : hh = 0 := by rcases hhi with ⟨_, rfl⟩ | ⟨_, _, h⟩ <;> omega
    have hl0 : l = 0 := by rcases hl with ⟨_, rfl⟩ | ⟨_, _, h⟩ <;> omega
    subst hh0; subst hl0
    cases MX with
    | some => exact absurd hMX (by simp [OVR])
    | none => exact ⟨none, 0, 0, 0, 0, 0, rfl, run_bounds hLO hHI hhi hl, by simp [VR]⟩
  · rename_i id off len lb ex
    split at h
    · -- two bounds
      obtain ⟨hh, h2, hhi⟩ := optK_true h
      clear h
      obtain ⟨l, h, hl⟩ := optK_true h2
      clear h2
      have hlh : l ≤ hh := by rcases hl with ⟨_, rfl⟩ | ⟨_, _, h⟩ <;> omega
      have mk : ∀ (μ : Mu) (w : World) (isSlice : Bool) (X : Value) (LO HI MX : Option Value), VR μ (.slc id off len lb ex) X → OVR μ lo LO → OVR μ hi HI → OVR μ none MX →
          ∃ r c, μ.b id = some r ∧ exOk μ ex c ∧ X = .slice (some ⟨r, off, none⟩) len (lb + c) ∧ MX = none ∧ (Instr.sliceBounds isSlice len (lb + c) LO HI none).run P w = .ok (l, hh, lb + c) w := by
        intro μ w isSlice X LO HI MX hX hLO hHI hMX
        obtain ⟨r, c, hm, hc, rfl⟩ := hX
        cases MX with
        | some => exact absurd hMX (by simp [OVR])
        | none =>
          refine ⟨r, c, hm, hc, rfl, rfl, run_bounds hLO hHI ?_ hl⟩
          rcases hhi with h | ⟨k, h, h'⟩
          · exact .inl h
          · exact .inr ⟨k, h, by omega⟩
      split at h
      · -- a capacity that is open
        rename_i e
        split at h
        · refine ⟨_, h, fun μ w isSlice X LO HI MX hX hLO hHI hMX => ?_⟩
          obtain ⟨r, c, hm, hc, rfl, rfl, hb⟩ := mk μ w isSlice X LO HI MX hX hLO hHI hMX
          refine ⟨_, len, _, 0, hh, lb + c, rfl, hb, r, c, hm, hc, ?_⟩
          simp only [Nat.zero_mul, Option.map_some, add_mid, Nat.add_zero, Nat.sub_zero]
          split <;> rfl
        · rename_i l'
          split at h
          · rename_i hlt
            have hlt := of_blt hlt
            simp only [natK_eq] at h
            refine ⟨_, h, fun μ w isSlice X LO HI MX hX hLO hHI hMX => ?_⟩
            obtain ⟨r, c, hm, hc, rfl, rfl, hb⟩ := mk μ w isSlice X LO HI MX hX hLO hHI hMX
            refine ⟨_, len, _, l' + 1, hh, lb + c, rfl, hb, r, c, hm, hc, ?_⟩
            rw [if_neg (by omega)]
            simp only [Option.map_some, add_mid]
            have : lb + c - (l' + 1) = lb - (l' + 1) + c := by omega
            rw [this]; rfl
          · rename_i hlt
            have hlt := of_blt_false hlt
            split at h
            case h_2 => cases h
            rename_i heq
            have heq := of_beq heq
            refine ⟨_, h, fun μ w isSlice X LO HI MX hX hLO hHI hMX => ?_⟩
            obtain ⟨r, c, hm, hc, rfl, rfl, hb⟩ := mk μ w isSlice X LO HI MX hX hLO hHI hMX
            refine ⟨_, len, _, l' + 1, hh, lb + c, rfl, hb, ?_⟩
            rw [show hh - (l' + 1) = 0 by have : hh = l' + 1 := heq; omega]
            split
            · exact ⟨_, _, rfl⟩
            · exact ⟨_, _, rfl⟩
      · -- a capacity that is known
        split at h
        · rename_i heq
          have heq := of_beq heq
          rw [natK_eq] at h
          refine ⟨_, h, fun μ w isSlice X LO HI MX hX hLO hHI hMX => ?_⟩
          obtain ⟨r, c, hm, hc, rfl, rfl, hb⟩ := mk μ w isSlice X LO HI MX hX hLO hHI hMX
          simp only [exOk] at hc; subst hc
          refine ⟨_, len, _, l, hh, lb + 0, rfl, hb, r, 0, hm, rfl, ?_⟩
          rw [if_pos (by omega)]
          rw [show lb + 0 - l = 0 by omega]; rfl
        · rename_i heq
          have heq := of_beq_false heq
          simp only [natK_eq] at h
          refine ⟨_, h, fun μ w isSlice X LO HI MX hX hLO hHI hMX => ?_⟩
          obtain ⟨r, c, hm, hc, rfl, rfl, hb⟩ := mk μ w isSlice X LO HI MX hX hLO hHI hMX
          simp only [exOk] at hc; subst hc
          refine ⟨_, len, _, l, hh, lb + 0, rfl, hb, r, 0, hm, rfl, ?_⟩
          rw [if_neg (by omega)]
          simp only [Option.map_some, add_mid]; rfl
    · -- three bounds
      rename_i mv
      obtain ⟨k, m, rfl, hml, h2⟩ := boundK_true h
      clear h
      split at h2
      case h_1 => cases h2
      rename_i hv
      obtain ⟨k2, hh, rfl, hhm, h3⟩ := boundK_true h2
      clear h2
      obtain ⟨l, h, hl⟩ := optK_true h3
      clear h3
      have mk : ∀ (μ : Mu) (w : World) (isSlice : Bool) (X : Value) (LO HI MX : Option Value), VR μ (.slc id off len lb ex) X → OVR μ lo LO → OVR μ (some (.int k2 (Int.ofNat hh))) HI → OVR μ (some (.int k (Int.ofNat m))) MX →
          ∃ r c, μ.b id = some r ∧ exOk μ ex c ∧ X = .slice (some ⟨r, off, none⟩) len (lb + c) ∧ (Instr.sliceBounds isSlice len (lb + c) LO HI MX).run P w = .ok (l, hh, m) w := by
        intro μ w isSlice X LO HI MX hX hLO hHI hMX
        obtain ⟨r, c, hm, hc, rfl⟩ := hX
        cases MX with
        | none => exact absurd hMX (by simp [OVR])
        | some MV => cases HI with
          | none => exact absurd hHI (by simp [OVR])
          | some HV => exact ⟨r, c, hm, hc, rfl, run_bounds3 hLO hHI hMX rfl (by omega) rfl hhm hl⟩
      split at h
      · rename_i heq
        have heq := of_beq heq
        rw [natK_eq] at h
        refine ⟨_, h, fun μ w isSlice X LO HI MX hX hLO hHI hMX => ?_⟩
        obtain ⟨r, c, hm, hc, rfl, hb⟩ := mk μ w isSlice X LO HI MX hX hLO hHI hMX
        refine ⟨_, len, _, l, hh, m, rfl, hb, r, 0, hm, rfl, ?_⟩
        rw [if_pos (by omega)]
        rw [show m - l = 0 by omega]; rfl
      · rename_i heq
        have heq := of_beq_false heq
        simp only [natK_eq] at h
        refine ⟨_, h, fun μ w isSlice X LO HI MX hX hLO hHI hMX => ?_⟩
        obtain ⟨r, c, hm, hc, rfl, hb⟩ := mk μ w isSlice X LO HI MX hX hLO hHI hMX
        refine ⟨_, len, _, l, hh, m, rfl, hb, r, 0, hm, rfl, ?_⟩
        rw [if_neg (by omega)]
        simp only [Option.map_some, add_mid]; rfl
  · -- of a slice that came in
    split at h
    case h_2 => cases h
    obtain ⟨hh, h, hhi⟩ := optK_true h
    refine ⟨_, h, fun μ w isSlice X LO HI MX hX hLO hHI hMX => ?_⟩
    simp only [VR] at hX; subst hX
    cases MX with
    | some => exact absurd hMX (by simp [OVR])
    | none =>
      refine ⟨_, _, _, 0, hh, _, rfl, run_bounds hLO hHI hhi (.inl ⟨rfl, rfl⟩), ?_⟩
      simp only [Nat.zero_mul, Option.map_some, add_mid, Nat.add_zero, Nat.sub_zero, VR, ite_self]
  · -- of an empty one
    split at h
    case h_2 => cases h
    obtain ⟨hh, h, hhi⟩ := optK_true h
    refine ⟨_, h, fun μ w isSlice X LO HI MX hX hLO hHI hMX => ?_⟩
    obtain ⟨a, c, rfl⟩ := hX
    have hh0 : hh = 0 := by rcases hhi with ⟨_, rfl⟩ | ⟨_, _, h⟩ <;> omega
    subst hh0
    cases MX with
    | some => exact absurd hMX (by simp [OVR])
    | none =>
      refine ⟨_, _, _, 0, 0, _, rfl, run_bounds hLO hHI ?_ (.inl ⟨rfl, rfl⟩), ?_⟩
      · rcases hhi with h | ⟨k, h, _⟩
        · exact .inl h
        · exact .inr ⟨k, h, Nat.zero_le _⟩
      · split
        · exact ⟨_, _, rfl⟩
        · exact ⟨_, _, rfl⟩
  · cases h

theorem extract_bytes (s : ByteArray) (l h : Nat) : bytesOf (s.extract l h) = ((bytesOf s).drop l).take (h - l) := by
  unfold bytesOf
  simp only [ByteArray.data_extract, Array.toList_extract, List.extract_eq_take_drop, List.map_take, List.map_drop]

theorem sound_slice {t : TypeId} {x : Operand} {lo hi mx : Option Operand} (ho : o.op = .slice t x lo hi mx)
    (h : evK tm x (fun v => evOK tm lo fun lo => evOK tm hi fun hi => evOK tm mx fun mx => sliceOpK P t v lo hi mx fun v => K (.val v) st) = true) : SoundX P G o tm st K := by
  obtain ⟨v, h1, hv⟩ := evK_true h
  clear h
  obtain ⟨lov, h2, hlo⟩ := evO_true h1
  clear h1
  obtain ⟨hiv, h3, hhi⟩ := evO_true h2
  clear h2
  obtain ⟨mxv, h, hmx⟩ := evO_true h3
  clear h3
  have rel : ∀ μ ρ, (∀ x ∈ o.op.operands, OpR μ tm ρ x) → VR μ v (ρ x) ∧ OVR μ lov (lo.map ρ) ∧ OVR μ hiv (hi.map ρ) ∧ OVR μ mxv (mx.map ρ) := fun μ ρ hx =>
    ⟨hv μ ρ (hx x (by simp [ho, Op.operands])), hlo μ ρ (fun y hy => hx y (by subst hy; simp [ho, Op.operands])), hhi μ ρ (fun y hy => hx y (by subst hy; simp [ho, Op.operands])), hmx μ ρ (fun y hy => hx y (by subst hy; simp [ho, Op.operands]))⟩
  unfold sliceOpK at h
  split at h
  · rename_i hu
    have hu := und_some P hu
    split at h
    case h_2 => cases h
    rename_i s
    obtain ⟨hh, h2, hhi'⟩ := optK_true h
    clear h
    obtain ⟨l, h, hl'⟩ := optK_true h2
    clear h2
    rw [dropK_eq, takeK_eq] at h
    refine Sound.same h fun N μ w ρ _ hr hx => ?_
    obtain ⟨r1, r2, r3, r4⟩ := rel μ ρ hx
    obtain ⟨S, e, hS⟩ := r1
    have hlen : s.length = S.size := by rw [← hS, bytesOf_len]
    cases hmxm : mx.map ρ with
    | some => rw [hmxm] at r4; exact absurd r4 (by simp [OVR])
    | none =>
      have hb := run_bounds (P := P) (w := w) (isSlice := false) (len := S.size) (cap := S.size) r2 r3 (by rw [← hlen]; exact hhi') hl'
      refine ⟨.string (S.extract l hh), ?_, ⟨_, rfl, by rw [extract_bytes, hS]; rfl⟩⟩
      simp [execOp, ho, Instr.sliceAt, run_underlying hu, Instr.slice, e, hmxm, hb]
  · rename_i n e hu
    have hu := und_some P hu
    split at h
    case h_2 => cases h
    rename_i id off size hsz
    obtain ⟨y, h2, hy⟩ := sliceK_true (P := P) h
    refine Sound.same h2 fun N μ w ρ _ hr hx => ?_
    obtain ⟨r1, r2, r3, r4⟩ := rel μ ρ hx
    obtain ⟨r, hm, e1⟩ := r1
    obtain ⟨a, len, cap, l, hh, m, e2, hb, hV⟩ := hy μ w false (.slice (some ⟨r, off, none⟩) n (n + 0)) _ _ _ ⟨r, 0, hm, rfl, rfl⟩ r2 r3 r4
    injection e2 with e2 e3 e4
    subst e2; subst e3; subst e4
    refine ⟨_, ?_, hV⟩
    simp only [Nat.add_zero] at hb
    simp [execOp, ho, Instr.sliceAt, run_underlying hu, e1, Instr.sureAddr, hb, sizeOf_run hsz]
    split <;> rfl
  · rename_i e hu
    have hu := und_some P hu
    split at h
    case h_2 => cases h
    rename_i size hsz
    obtain ⟨y, h2, hy⟩ := sliceK_true (P := P) h
    refine Sound.same h2 fun N μ w ρ _ hr hx => ?_
    obtain ⟨r1, r2, r3, r4⟩ := rel μ ρ hx
    obtain ⟨a, len, cap, l, hh, m, e2, hb, hV⟩ := hy μ w true _ _ _ _ r1 r2 r3 r4
    refine ⟨_, ?_, hV⟩
    simp [execOp, ho, Instr.sliceAt, run_underlying hu, Instr.slice, e2, hb, sizeOf_run hsz]
  · cases h
end
end Go.Shd
/- Operations: literals, make. -/
namespace Go.Shd
noncomputable section
variable {G : Globals} {P : Program} {o : Oper} {tm : T AV} {st : St} {K : ONext → St → Bool}

theorem VRs_of_get {μ : Mu} : ∀ {l : List AV} {m : List Value}, l.length = m.length → (∀ (i : Nat) (a : AV), l[i]? = some a → ∃ V, m[i]? = some V ∧ VR μ a V) → VRs μ l m
  | [], m, hl, _ => by simp at hl; simp [List.length_eq_zero_iff.1 hl.symm]
  | a :: l, [], hl, _ => by simp at hl
  | a :: l, V :: m, hl, h => by
    rw [VRs_cons_cons]
    obtain ⟨V', h1, h2⟩ := h 0 a (by simp)
    simp at h1; subst h1
    exact ⟨h2, VRs_of_get (by simpa using hl) fun i b hb => by simpa using h (i + 1) b (by simpa using hb)⟩

/-! ### n times a zero -/
def rep (z : List AV) : Nat → List AV → List AV
  | 0, acc => acc
  | n + 1, acc => rep z n (z ++ acc)

theorem repK_eq (z : List AV) : ∀ (n : Nat) (acc : List AV) (K : List AV → Bool), repK z n acc K = K (rep z n acc)
  | 0, acc, K => rfl
  | n + 1, acc, K => by simp only [repK, appK_eq, rep]; exact repK_eq z n _ K

theorem rep_get (z : List AV) (hz : 0 < z.length) : ∀ (n m : Nat) (acc : List AV), acc.length = m * z.length → (∀ i a, acc[i]? = some a → z[i % z.length]? = some a) →
    (rep z n acc).length = (n + m) * z.length ∧ ∀ i a, (rep z n acc)[i]? = some a → z[i % z.length]? = some a
  | 0, m, acc, h1, h2 => ⟨by simpa [rep] using h1, h2⟩
  | n + 1, m, acc, h1, h2 => by
    have := rep_get z hz n (m + 1) (z ++ acc) (by simp [h1, Nat.add_mul]; omega) (by
      intro i a hi
      by_cases hlt : i < z.length
      · rw [List.getElem?_append_left hlt] at hi; rw [Nat.mod_eq_of_lt hlt]; exact hi
      · rw [List.getElem?_append_right (by omega)] at hi
        have := h2 _ _ hi
        rwa [Nat.mod_eq_sub_mod (by omega)])
    refine ⟨?_, this.2⟩
    rw [show n + 1 + m = n + (m + 1) by omega]; exact this.1

theorem rep_VRs {μ : Mu} {z : List AV} {Z : Array Value} (hz : VRs μ z Z.toList) (n : Nat) (Z' : Array Value) (hZ' : n * z.length ≠ 0 → Z' = Z) :
    VRs μ (rep z n []) ((Array.range (n * z.length)).map (Z'[· % Z'.size]!)).toList := by
  have hl := hz.len
  by_cases h0 : n * z.length = 0
  · have : rep z n [] = [] := by
      rcases Nat.mul_eq_zero.1 h0 with h | h
      · subst h; rfl
      · have hz0 : z = [] := List.length_eq_zero_iff.1 h
        subst hz0
        clear h0 hZ' h
        induction n with
        | zero => rfl
        | succ n ih => simpa [rep] using ih
    rw [this, h0]; simp
  · have hpos : 0 < z.length := Nat.pos_of_ne_zero (by rintro h; rw [h] at h0; simp at h0)
    rw [hZ' h0]
    obtain ⟨g1, g2⟩ := rep_get z hpos n 0 [] (by simp) (by simp)
    refine VRs_of_get (by simpa using g1) ?_
    intro i a hi
    have hlt : i < n * z.length := by
      have := (List.getElem?_eq_some_iff.1 hi).1
      rw [g1] at this; simpa using this
    obtain ⟨V, hV, hr⟩ := hz.get (g2 i a hi)
    have hZs : Z.size = z.length := by simpa using hl.symm
    refine ⟨V, ?_, hr⟩
    have h2 : Z[i % Z.size]? = some V := by rw [hZs]; simpa using hV
    simp [hlt]
    obtain ⟨hlt2, he⟩ := Array.getElem?_eq_some_iff.1 h2
    rw [getElem!_pos Z _ hlt2]; exact he

/-! ### The parts of a literal -/
theorem foldl_put : ∀ (l : List Value) (k off : Nat) (cells : Array Value), off + k + l.length ≤ cells.size →
    (l.zipIdx k).foldl (fun cs (c, j) => cs.setIfInBounds (off + j) c) cells = aput cells (off + k) l
  | [], k, off, cells, _ => by unfold aput; simp
  | v :: l, k, off, cells, h => by
    simp only [List.length_cons] at h
    simp only [List.zipIdx_cons, List.foldl_cons]
    rw [foldl_put l (k + 1) off _ (by simp; omega)]
    exact aput_step (by omega)

theorem fill_step {place : Nat → Option (Nat × Nat)} {cells : Array Value} {i off : Nat} {v : Value} {rest : List (Nat × Value)} (hp : place i = some (off, v.cells.size)) (hle : off + v.cells.size ≤ cells.size) :
    Instr.fill place cells ((i, v) :: rest) = Instr.fill place (aput cells off v.cells.toList) rest := by
  have := foldl_put v.cells.toList 0 off cells (by simpa using hle)
  simp only [Nat.add_zero] at this
  simp only [Instr.fill, hp]
  rw [if_neg (by simp; omega)]
  congr 1
  rw [← this]
  rw [← Array.foldl_toList]
  simp

theorem fillK_true {place place' : Nat → Option (Nat × Nat)} (hpl : ∀ i p, place i = some p → place' i = some p) : ∀ {l : List (Nat × Operand)} {cs : List AV} {K : List AV → Bool}, fillK place tm l cs K = true →
    ∃ cs', K cs' = true ∧ ∀ μ ρ (arr : Array Value), (∀ x ∈ l.map (·.2), OpR μ tm ρ x) → VRs μ cs arr.toList →
      ∃ arr', Instr.fill place' arr (l.map fun p => (p.1, ρ p.2)) = some arr' ∧ VRs μ cs' arr'.toList
  | [], cs, K, h => ⟨cs, h, fun μ ρ arr _ ha => ⟨arr, rfl, ha⟩⟩
  | (i, x) :: l, cs, K, h => by
    simp only [fillK] at h
    obtain ⟨v, h2, hv⟩ := evK_true h
    clear h
    split at h2
    case h_1 => cases h2
    rename_i hna
    split at h2
    case h_2 => cases h2
    rename_i off size hp
    split at h2
    case h_2 => cases h2
    rename_i hsz
    have hsz := of_beq hsz
    obtain ⟨hle, h3⟩ := putK_true h2
    clear h2
    obtain ⟨cs', hk, hrest⟩ := fillK_true hpl h3
    refine ⟨cs', hk, fun μ ρ arr hx ha => ?_⟩
    have hV := VR_cells (hv μ ρ (hx x (by simp))) (fun w hw => hna w hw)
    have hVl := hV.len
    have hVs : (ρ x).cells.size = size := by rw [hsz] at hVl; simpa using hVl.symm
    have hal := ha.len
    have hal : cs.length = arr.size := by simpa using hal
    have hle2 : off + (ρ x).cells.size ≤ arr.size := by rw [hVs, ← hal, ← hsz]; exact hle
    obtain ⟨arr', h4, h5⟩ := hrest μ ρ (aput arr off (ρ x).cells.toList) (fun y hy => hx y (by simp at hy ⊢; exact .inr hy)) (by
      unfold aput
      have : (ρ x).cells.toList.length = (cellsOf v).length := hVl.symm
      rw [this]
      exact ((ha.take off).append hV).append (ha.drop _))
    refine ⟨arr', ?_, h5⟩
    simp only [List.map_cons]
    rw [fill_step (by rw [hVs]; exact hpl _ _ hp) hle2]
    exact h4

theorem placesL_run {fs : List Field} {ps : List (Nat × Nat)} (h : placesL P fs = some ps) (w : World) : (fs.mapM fun f => Prod.mk f.offset <$> sizeOf f.type).run P w = .ok ps w := by
  induction fs generalizing ps with
  | nil => simp [placesL] at h; subst h; rfl
  | cons f fs ih =>
    simp only [placesL] at h
    split at h
    · rename_i i l hi hl
      cases h
      have hs : (sizeOf f.type).run P w = .ok i.size w := sizeOf_run (by unfold sizeOf?; rw [hi]; rfl) w
      simp [List.mapM_cons, hs, ih hl]
    · cases h

theorem sound_build {t : TypeId} {parts : Array (Nat × Operand)} (ho : o.op = .build t parts) (h : (match zeroOf P t with
    | some z => match und P t with
      | some (.struct fs) => match placesL P fs.toList with
        | some ps => fillK (fun i => ps[i]?) tm parts.toList z fun cs => K (.val (.agg cs)) st
        | none => false
      | some (.array _ e) => match sizeOf? P e with
        | some n => fillK (fun i => some (Nat.mul i n, n)) tm parts.toList z fun cs => K (.val (.agg cs)) st
        | none => false
      | _ => false
    | none => false) = true) : SoundX P G o tm st K := by
  split at h
  case h_2 => cases h
  rename_i z hz
  have hxs : ∀ {μ ρ}, (∀ x ∈ o.op.operands, OpR μ tm ρ x) → ∀ x ∈ parts.toList.map (·.2), OpR μ tm ρ x := fun hx x hx' => hx x (by simp only [ho, Op.operands]; simpa using hx')
  have hmap : ∀ ρ : Operand → Value, (parts.map fun (i, x) => (i, ρ x)).toList = parts.toList.map fun p => (p.1, ρ p.2) := fun ρ => by simp
  split at h
  · rename_i fs hu
    have hu := und_some P hu
    split at h
    case h_2 => cases h
    rename_i ps hps
    obtain ⟨cs, hk, hf⟩ := fillK_true (place' := fun i => ps.toArray[i]?) (fun i p hp => by simpa using hp) h
    refine Sound.same hk fun N μ w ρ _ hr hx => ?_
    obtain ⟨Z, h1, h2⟩ := zeroOf_run hz μ w
    obtain ⟨arr, h3, h4⟩ := hf μ ρ Z.cells (hxs hx) h2
    refine ⟨.agg arr, ?_, ⟨arr, rfl, h4⟩⟩
    have h5 : Instr.fill (fun i => ps[i]?) Z.cells (parts.toList.map fun p => (p.1, ρ p.2)) = some arr := by simpa using h3
    simp [execOp, ho, Instr.build, h1, run_underlying hu, Array.mapM_eq_mapM_toList, placesL_run hps, h5]
  · rename_i n' e hu
    have hu := und_some P hu
    split at h
    case h_2 => cases h
    rename_i n hn
    obtain ⟨cs, hk, hf⟩ := fillK_true (place' := fun i => some (i * n, n)) (fun i p hp => hp) h
    refine Sound.same hk fun N μ w ρ _ hr hx => ?_
    obtain ⟨Z, h1, h2⟩ := zeroOf_run hz μ w
    obtain ⟨arr, h3, h4⟩ := hf μ ρ Z.cells (hxs hx) h2
    refine ⟨.agg arr, ?_, ⟨arr, rfl, h4⟩⟩
    simp [execOp, ho, Instr.build, h1, run_underlying hu, sizeOf_run hn, h3]
  · cases h
end
end Go.Shd
/- Operations: make, conversions, numbers, strings, type assertions. -/
namespace Go.Shd
noncomputable section
variable {G : Globals} {P : Program} {o : Oper} {tm : T AV} {st : St} {K : ONext → St → Bool}

theorem sound_buildSlice {t : TypeId} {len : Nat} {parts : Array (Nat × Operand)} (ho : o.op = .buildSlice t len parts) (h : (match und P t with
    | some (.slice e) => match sizeOf? P e, zeroOf P e with
      | some n, some z => match Nat.ble (Nat.mul len n) 100000 && Nat.beq z.length n with
        | true => repK z len [] fun z => fillK (fun i => some (Nat.mul i n, n)) tm parts.toList z fun cs => newRowK st cs e fun id st => K (.val (.slc id 0 len len none)) st
        | false => false
      | _, _ => false
    | _ => false) = true) : SoundX P G o tm st K := by
  split at h
  case h_2 => cases h
  rename_i e hu
  have hu := und_some P hu
  split at h
  case h_2 => cases h
  rename_i n z hn hz
  split at h
  case h_2 => cases h
  rename_i hc
  rw [Bool.and_eq_true] at hc
  have h1 := of_ble hc.1
  have h2 := of_beq hc.2
  simp only [Nat.mul_eq] at h1
  rw [repK_eq] at h
  obtain ⟨cs, hk, hf⟩ := fillK_true (place' := fun i => some (i * n, n)) (fun i p hp => hp) h
  rw [newRowK_push] at hk
  refine Sound.make hk rfl (by intro g hg; simp [Blk.grp?] at hg; exact hg.symm) fun N μ w ρ _ hr hx hfr => ?_
  obtain ⟨Z, hZ, hZv⟩ := zeroOf_run (P := P) hz μ w
  have hxs : ∀ x ∈ parts.toList.map (·.2), OpR μ tm ρ x := fun x hx' => hx x (by simp only [ho, Op.operands]; simpa using hx')
  obtain ⟨arr, h3, h4⟩ := hf μ ρ ((Array.range (len * z.length)).map ((if len * n = 0 then #[] else Z.cells)[· % (if len * n = 0 then #[] else Z.cells).size]!)) hxs
    (rep_VRs hZv len _ (by rw [h2]; intro h0; rw [if_neg h0]))
  rw [h2] at h3
  refine ⟨.slice (some ⟨w.heap.size, 0, none⟩) len len, .cells arr e, ?_, ⟨arr, rfl, ⟨arr.toList, [], by simp, h4.mono (Mu.le_new hfr)⟩, trivial⟩, ⟨w.heap.size, 0, by simp [Mu.new], rfl, rfl⟩⟩
  have hle : ¬ 2 ^ 24 < len * n := by omega
  by_cases h0 : len * n = 0
  · simp only [h0, if_true] at h3
    simp at h3
    simp [execOp, ho, Instr.buildSlice, run_underlying hu, sizeOf_run hn, h0, h3, newRow]
  · simp only [h0, if_false] at h3
    simp [execOp, ho, Instr.buildSlice, run_underlying hu, sizeOf_run hn, hle, h0, hZ, h3, newRow]

theorem sound_makeSlice {t : TypeId} {lx cx : Operand} (ho : o.op = .makeSlice t lx cx) (h : evK tm lx (fun l => evK tm cx fun c => match und P t with
    | some (.slice e) => match sizeOf? P e, bytes? P e, zeroOf P e, l, c with
      | some n, some b, some z, .int _ (.ofNat l), .int _ (.ofNat c) => match Nat.ble l c, Nat.ble (Nat.mul c (Nat.add n b)) 1000000, Nat.ble c 1000000 with
        | true, true, true => match Nat.beq z.length n with
          | true => repK z c [] fun cs => newRowK st cs e fun id st => K (.val (.slc id 0 l c none)) st
          | false => false
        | _, _, _ => false
      | _, _, _, _, _ => false
    | _ => false) = true) : SoundX P G o tm st K := by
  obtain ⟨lv, h1, hl⟩ := evK_true h
  clear h
  obtain ⟨cv, h, hc⟩ := evK_true h1
  clear h1
  split at h
  case h_2 => cases h
  rename_i e hu
  have hu := und_some P hu
  split at h
  case h_2 => cases h
  rename_i n b z k1 l k2 c hn hb hz
  split at h
  case h_2 => cases h
  rename_i hlc hcb hc6
  have hlc := of_ble hlc; have hcb := of_ble hcb; have hc6 := of_ble hc6
  split at h
  case h_2 => cases h
  rename_i hzl
  have hzl := of_beq hzl
  rw [repK_eq, newRowK_push] at h
  refine Sound.make h rfl (by intro g hg; simp [Blk.grp?] at hg; exact hg.symm) fun N μ w ρ _ hr hx hfr => ?_
  obtain ⟨i, hi, hib⟩ := bytes_run hb
  obtain ⟨Z2, hZ2, hZv2⟩ : ∃ Z, i.zero = some Z ∧ VRs μ z Z.cells.toList := by
    unfold zeroOf at hz
    split at hz
    · rename_i v hv
      obtain ⟨j, hj, hj2⟩ := Option.bind_eq_some_iff.1 hv
      have := tinfo_some P hj
      rw [hi] at this; cases this
      exact ⟨v, hj2, ofVals_VR μ _ _ hz⟩
    · cases hz
  have hsz : i.size = n := by
    unfold sizeOf? at hn
    obtain ⟨j, hj, hj2⟩ := Option.map_eq_some_iff.1 hn
    have := tinfo_some P hj
    rw [hi] at this; cases this; exact hj2
  have e1 := hl μ ρ (hx lx (by simp [ho, Op.operands]))
  have e2 := hc μ ρ (hx cx (by simp [ho, Op.operands]))
  simp only [VR] at e1 e2
  have hrep := rep_VRs hZv2 c Z2.cells (fun _ => rfl)
  rw [hzl] at hrep
  have hbm : b * c ≤ 1000000 := by
    have : c * b ≤ c * (n + b) := Nat.mul_le_mul_left _ (by omega)
    rw [Nat.mul_comm]; exact Nat.le_trans this hcb
  have t1 : (i.bytes : Int) * (c : Int) ≤ 281474976710656 := by
    have : ((b * c : Nat) : Int) ≤ 1000000 := by omega
    rw [Int.natCast_mul] at this; rw [hib]; omega
  have hrun := run_make w t e i Z2 hu hi hZ2 k1 k2 (Int.ofNat l) (Int.ofNat c) (show (0 : Int) ≤ (l : Int) by omega) (show (l : Int) ≤ (c : Int) by omega) t1 (show (c : Int) ≤ 9223372036854775807 by omega)
  refine ⟨.slice (some ⟨w.heap.size, 0, none⟩) l c, .cells (madeCells Z2.cells (c * n)) e, ?_, ⟨_, rfl, ⟨(madeCells Z2.cells (c * n)).toList, [], by simp, hrep.mono (Mu.le_new hfr)⟩, trivial⟩, ⟨w.heap.size, 0, by simp [Mu.new], rfl, rfl⟩⟩
  simp only [execOp, ho, e1, e2, Sem.run_bind, hrun, Result.andThen_ok, Sem.run_pure]
  rw [hsz]; rfl

theorem sound_makeMap {t : TypeId} {r : Option Operand} (ho : o.op = .makeMap t r) (h : (match (match r with
      | none => true
      | some (.const (.int _ _)) => match und P t with
        | some (.map _ _) => true
        | _ => false
      | _ => false) with
      | true => newK st (.map [] 0) fun id st => K (.val (.mp id)) st
      | false => false) = true) : SoundX P G o tm st K := by
  generalize hgo : (match r with
      | none => true
      | some (.const (.int _ _)) => match und P t with
        | some (.map _ _) => true
        | _ => false
      | _ => false) = go at h
  cases go
  · cases h
  simp only at h
  rw [newK_push] at h
  refine Sound.make h rfl (by intro g hg; simp [Blk.grp?] at hg) fun N μ w ρ _ hr hx hfr => ?_
  refine ⟨.map (some w.heap.size), .map #[] 0, ?_, ⟨#[], rfl, by simp [ER]⟩, ⟨w.heap.size, by simp [Mu.new], rfl⟩⟩
  split at hgo
  · simp [execOp, ho, Instr.makeMap]
  · rename_i k n
    split at hgo
    · rename_i a b hu
      have hc := hx (.const (.int k n)) (by simp [ho, Op.operands])
      simp only [OpR] at hc
      simp [execOp, ho, Instr.makeMap, run_underlying (und_some P hu), hc, asInt, asIntOf]
    · cases hgo
  · cases hgo
end
end Go.Shd
/- '==': the shadow against the model. -/
namespace Go.Shd
noncomputable section
variable {G : Globals} {P : Program} {st : St}

theorem intBeq_eq (a b : Int) : intBeq a b = (a == b) := by
  have nb : ∀ m n : Nat, Nat.beq m n = decide (m = n) := fun m n => by
    by_cases h : m = n
    · subst h; simp [Nat.beq_refl]
    · have h1 : Nat.beq m n = false := by
        cases hb : Nat.beq m n with
        | false => rfl
        | true => exact absurd (of_beq hb) h
      rw [h1]; simp [h]
  rw [show (a == b) = decide (a = b) from rfl]
  cases a with
  | ofNat m => cases b with
    | ofNat n => simp only [intBeq, nb]; congr 1; simp; omega
    | negSucc n => simp [intBeq]
  | negSucc m => cases b with
    | ofNat n => simp [intBeq]
    | negSucc n => simp only [intBeq, nb]; congr 1; simp

theorem beqL_eq : ∀ (a b : List Nat), beqL a b = (a == b)
  | [], [] => rfl
  | [], _ :: _ => rfl
  | _ :: _, [] => rfl
  | a :: l, b :: m => by
    simp only [beqL]
    split
    · rename_i h; have := of_beq h; subst this; rw [beqL_eq l m]; simp
    · rename_i h; have := of_beq_false h; symm; simp [this]

theorem bytes_beqL {s t : ByteArray} : (s.toList == t.toList) = (bytesOf s == bytesOf t) := by
  rw [ByteArray.toList_eq, ByteArray.toList_eq]
  unfold bytesOf
  have inj : s.data.toList.map (·.toNat) = t.data.toList.map (·.toNat) ↔ s.data.toList = t.data.toList :=
    List.map_inj_right (f := fun x : UInt8 => x.toNat) (by intro x y h; exact UInt8.toNat_inj.1 h)
  by_cases h : s.data.toList = t.data.toList
  · rw [h]; simp
  · rw [beq_eq_false_iff_ne.2 h, beq_eq_false_iff_ne.2 (fun e => h (inj.1 e))]

theorem bytes_beq {s t : ByteArray} : (s == t) = (bytesOf s == bytesOf t) := by rw [beq_toListBytes, bytes_beqL]

theorem run_sameAddr_apart {w : World} {r1 r2 o1 o2 : Nat} {a1 a2 : Array Value} {e1 e2 : TypeId} (h1 : w.heap[r1]? = some (.cells a1 e1 (0, 0))) (h2 : w.heap[r2]? = some (.cells a2 e2 (0, 0))) (hne : r1 ≠ r2) :
    (sameAddr ⟨r1, o1, none⟩ ⟨r2, o2, none⟩).run P w = .ok false w := by
  have f1 : ∀ o, w.frozen? ⟨r1, o, none⟩ = false := fun o => by rw [frozen_of h1]; simp [frz]
  have f2 : ∀ o, w.frozen? ⟨r2, o, none⟩ = false := fun o => by rw [frozen_of h2]; simp [frz]
  have s1 : w.shape? r1 = some (e1, a1.size) := by simp [World.shape?, h1]
  have s2 : w.shape? r2 = some (e2, a2.size) := by simp [World.shape?, h2]
  simp [sameAddr, hne, f1, f2, noView, viewAt, s1, s2, mayBeOne, stringish]

theorem nilEqK_true {x y : Option Bool} {K : Bool → Bool} (h : nilEqK x y K = true) : ∃ a b, x = some a ∧ y = some b ∧ (a = true ∨ b = true) ∧ K (a && b) = true := by
  unfold nilEqK at h
  split at h
  · split at h
    · exact ⟨_, _, rfl, rfl, .inl rfl, by simpa using h⟩
    · cases h
  · split at h
    · exact ⟨_, _, rfl, rfl, .inr rfl, by simpa using h⟩
    · cases h
  · cases h

theorem nilPtr_VR {μ : Mu} {x : AV} {b : Bool} {X : Value} (h : nilPtr x = some b) (hx : VR μ x X) : ∃ a, X = .pointer a ∧ b = a.isNone := by
  unfold nilPtr at h
  split at h <;> (first | (injection h with h; subst h) | cases h) <;> (try (simp only [VR] at hx))
  · subst hx; exact ⟨_, rfl, rfl⟩
  · obtain ⟨r, _, rfl⟩ := hx; exact ⟨_, rfl, rfl⟩
  · subst hx; exact ⟨_, rfl, rfl⟩
theorem nilSlc_VR {μ : Mu} {x : AV} {b : Bool} {X : Value} (h : nilSlc x = some b) (hx : VR μ x X) : ∃ a n c, X = .slice a n c ∧ b = a.isNone := by
  unfold nilSlc at h
  split at h <;> (first | (injection h with h; subst h) | cases h) <;> (try (simp only [VR] at hx))
  · subst hx; exact ⟨_, _, _, rfl, rfl⟩
  · obtain ⟨r, c, _, _, rfl⟩ := hx; exact ⟨_, _, _, rfl, rfl⟩
  · obtain ⟨a, c, rfl⟩ := hx; exact ⟨_, _, _, rfl, rfl⟩
theorem nilMap_VR {μ : Mu} {x : AV} {b : Bool} {X : Value} (h : nilMap x = some b) (hx : VR μ x X) : ∃ a, X = .map a ∧ b = a.isNone := by
  unfold nilMap at h
  split at h <;> (first | (injection h with h; subst h) | cases h) <;> (try (simp only [VR] at hx))
  · subst hx; exact ⟨_, rfl, rfl⟩
  · obtain ⟨r, _, rfl⟩ := hx; exact ⟨_, rfl, rfl⟩
theorem nilFun_VR {μ : Mu} {x : AV} {b : Bool} {X : Value} (h : nilFun x = some b) (hx : VR μ x X) : (b = true ∧ X = .nilFunc) ∨ (b = false ∧ ∃ f a c, X = .func f a c) := by
  unfold nilFun at h
  split at h <;> (first | (injection h with h; subst h) | cases h) <;> (try (simp only [VR] at hx))
  · subst hx; exact .inl ⟨rfl, rfl⟩
  · obtain ⟨A, B, rfl, _⟩ := hx; exact .inr ⟨rfl, _, _, _, rfl⟩
  · obtain ⟨r, _, rfl⟩ := hx; exact .inr ⟨rfl, _, _, _, rfl⟩
end
end Go.Shd
/- '==': the shadow against the model, all types. -/
namespace Go.Shd
noncomputable section
variable {G : Globals} {P : Program} {st : St}

def EqS (P : Program) (G : Globals) (st : St) (d : Nat) (t : TypeId) (x y : AV) (b : Bool) : Prop :=
  ∀ N μ w X Y n, d ≤ n → Rel G N μ st w → VR μ x X → VR μ y Y → (Op.equalIn n t X Y).run P w = .ok b w

theorem structOf_some {t : TypeId} {fs : List (TypeId × Nat)} (h : structOf P t = some fs) :
    P.underlying t = some (.struct (P.fieldsOf t)) ∧ P.stoodInHeld t = false ∧ fs = liveFields (P.fieldsOf t).toList := by
  unfold structOf at h
  split at h
  · rename_i Fs hu
    have hu := und_some P hu
    have hf : P.fieldsOf t = Fs := by simp [Program.fieldsOf, hu]
    split at h
    · cases h
    · rename_i hs; cases h; exact ⟨by rw [hf]; exact hu, hs, by rw [hf]⟩
  · cases h

theorem ge_succ {d n : Nat} (h : d + 1 ≤ n) : ∃ m, n = m + 1 ∧ d ≤ m := ⟨n - 1, by omega, by omega⟩

/-- The fields, one after another. -/
theorem eqFields_true {d : Nat} (ih : ∀ t x y (K : Bool → Bool), eqK P st d t x y K = true → ∃ b, K b = true ∧ EqS P G st d t x y b) {xs ys : List AV} {K : Bool → Bool} : ∀ (fs : List Field),
    (liveFields fs).foldr (fun f next => partK P f.1 xs f.2 fun a => partK P f.1 ys f.2 fun b => eqK P st d f.1 a b fun r => match r with
          | true => next
          | false => K false) (K true) = true →
    ∃ b, K b = true ∧ ∀ N μ w (X Y : Array Value) n, d ≤ n → Rel G N μ st w → VRs μ xs X.toList → VRs μ ys Y.toList → (Op.eqFields n X Y fs).run P w = .ok b w
  | [], h => ⟨true, h, fun N μ w X Y n _ _ _ _ => by simp [Op.eqFields]⟩
  | f :: fs, h => by
    by_cases hf : f.name ≠ "_"
    · have hl : liveFields (f :: fs) = (f.type, f.offset) :: liveFields fs := by simp [liveFields, hf]
      rw [hl] at h
      simp only [List.foldr_cons] at h
      obtain ⟨a, h1, ha⟩ := partK_true h
      clear h
      obtain ⟨b, h2, hb⟩ := partK_true h1
      clear h1
      obtain ⟨r, h3, hr⟩ := ih _ _ _ _ h2
      clear h2
      cases r with
      | true =>
        obtain ⟨q, h4, hq⟩ := eqFields_true ih fs h3
        refine ⟨q, h4, fun N μ w X Y n hn hrel hX hY => ?_⟩
        obtain ⟨A, e1, hA⟩ := ha μ w X hX
        obtain ⟨B, e2, hB⟩ := hb μ w Y hY
        simpa [Op.eqFields, hf, e1, e2, hr N μ w A B n hn hrel hA hB] using hq N μ w X Y n hn hrel hX hY
      | false =>
        refine ⟨false, h3, fun N μ w X Y n hn hrel hX hY => ?_⟩
        obtain ⟨A, e1, hA⟩ := ha μ w X hX
        obtain ⟨B, e2, hB⟩ := hb μ w Y hY
        simp [Op.eqFields, hf, e1, e2, hr N μ w A B n hn hrel hA hB]
    · have hl : liveFields (f :: fs) = liveFields fs := by simp [liveFields, hf]
      rw [hl] at h
      obtain ⟨q, h4, hq⟩ := eqFields_true ih fs h
      exact ⟨q, h4, fun N μ w X Y n hn hrel hX hY => by simp only [Op.eqFields, hf, if_false]; exact hq N μ w X Y n hn hrel hX hY⟩

/-- The elements, one after another. -/
theorem eqItems_true {d : Nat} (ih : ∀ t x y (K : Bool → Bool), eqK P st d t x y K = true → ∃ b, K b = true ∧ EqS P G st d t x y b) {e : TypeId} {s : Nat} {xs ys : List AV} {K : Bool → Bool} : ∀ (is : List Nat),
    is.foldr (fun i next => partK P e xs (Nat.mul i s) fun a => partK P e ys (Nat.mul i s) fun b => eqK P st d e a b fun r => match r with
          | true => next
          | false => K false) (K true) = true →
    ∃ b, K b = true ∧ ∀ N μ w (X Y : Array Value) n, d ≤ n → Rel G N μ st w → VRs μ xs X.toList → VRs μ ys Y.toList → (Op.eqItems n e s X Y is).run P w = .ok b w
  | [], h => ⟨true, h, fun N μ w X Y n _ _ _ _ => by simp [Op.eqItems]⟩
  | i :: is, h => by
    simp only [List.foldr_cons] at h
    obtain ⟨a, h1, ha⟩ := partK_true h
    clear h
    obtain ⟨b, h2, hb⟩ := partK_true h1
    clear h1
    obtain ⟨r, h3, hr⟩ := ih _ _ _ _ h2
    clear h2
    cases r with
    | true =>
      obtain ⟨q, h4, hq⟩ := eqItems_true ih is h3
      refine ⟨q, h4, fun N μ w X Y n hn hrel hX hY => ?_⟩
      obtain ⟨A, e1, hA⟩ := ha μ w X hX
      obtain ⟨B, e2, hB⟩ := hb μ w Y hY
      simp only [Nat.mul_eq] at e1 e2
      simpa [Op.eqItems, e1, e2, hr N μ w A B n hn hrel hA hB] using hq N μ w X Y n hn hrel hX hY
    | false =>
      refine ⟨false, h3, fun N μ w X Y n hn hrel hX hY => ?_⟩
      obtain ⟨A, e1, hA⟩ := ha μ w X hX
      obtain ⟨B, e2, hB⟩ := hb μ w Y hY
      simp only [Nat.mul_eq] at e1 e2
      simp [Op.eqItems, e1, e2, hr N μ w A B n hn hrel hA hB]

theorem eqK_true : ∀ (d : Nat) (t : TypeId) (x y : AV) (K : Bool → Bool), eqK P st d t x y K = true → ∃ b, K b = true ∧ EqS P G st d t x y b
  | 0, _, _, _, _, h => by simp [eqK] at h
  | d + 1, t, x, y, K, h => by
    have ih := eqK_true d
    unfold eqK at h
    split at h
    · -- bool
      rename_i hu
      have hu := und_some P hu
      split at h
      · rename_i a b
        rw [boolK_eq] at h
        refine ⟨_, h, fun N μ w X Y n hn hr hX hY => ?_⟩
        obtain ⟨m, rfl, hm⟩ := ge_succ hn
        simp only [VR] at hX hY; subst hX hY
        exact run_equalIn_bool w m t a b hu
      · cases h
    · -- int
      rename_i q hu
      have hu := und_some P hu
      split at h
      · rename_i k a k' b
        split at h
        · rename_i hk
          have hk : k = k' := of_decide_eq_true hk
          subst hk
          rw [boolK_eq] at h
          refine ⟨_, h, fun N μ w X Y n hn hr hX hY => ?_⟩
          obtain ⟨m, rfl, hm⟩ := ge_succ hn
          simp only [VR] at hX hY; subst hX hY
          rw [intBeq_eq]
          exact run_equalIn_int w m t k q a b hu
        · cases h
      · cases h
    · -- string
      rename_i hu
      have hu := und_some P hu
      split at h
      · rename_i a b
        rw [boolK_eq] at h
        refine ⟨_, h, fun N μ w X Y n hn hr hX hY => ?_⟩
        obtain ⟨m, rfl, hm⟩ := ge_succ hn
        obtain ⟨s, rfl, rfl⟩ := hX
        obtain ⟨s', rfl, rfl⟩ := hY
        rw [run_equalIn_string w m t s s' hu, beqL_eq, bytes_beqL]
      · cases h
    · -- pointer
      rename_i e hu
      have hu := und_some P hu
      split at h
      · rename_i a o b o'
        split at h
        · rename_i k hs
          split at h
          · rename_i hab
            have := of_beq hab; subst this
            rw [boolK_eq] at h
            refine ⟨_, h, fun N μ w X Y n hn hr hX hY => ?_⟩
            obtain ⟨m, rfl, hm⟩ := ge_succ hn
            obtain ⟨r, h1, rfl⟩ := hX
            obtain ⟨r', h2, rfl⟩ := hY
            rw [h1] at h2; cases h2
            have hz : (sizeOf e).run P w = .ok (k + 1) w := sizeOf_run hs w
            by_cases ho : o = o'
            · subst ho; simp [Op.equalIn, run_underlying hu, hz, sameAddr, Nat.beq_refl]
            · have : Nat.beq o o' = false := by
                cases hb : Nat.beq o o' with
                | false => rfl
                | true => exact absurd (of_beq hb) ho
              simp [Op.equalIn, run_underlying hu, hz, sameAddr, this, ho]
          · rename_i hab
            have hab := of_beq_false hab
            split at h
            · rename_i cs1 e1 g1 c1 cs2 e2 g2 c2 hb1 hb2
              split at h
              · cases h
              · rename_i hg
                have hg := of_beq_false hg
                refine ⟨_, h, fun N μ w X Y n hn hr hX hY => ?_⟩
                obtain ⟨m, rfl, hm⟩ := ge_succ hn
                obtain ⟨r, h1, rfl⟩ := hX
                obtain ⟨r', h2, rfl⟩ := hY
                have hz : (sizeOf e).run P w = .ok (k + 1) w := sizeOf_run hs w
                obtain ⟨q1, hq1, _, _, arr1, ho1, _⟩ := hr.blk a _ hb1 rfl
                obtain ⟨q2, hq2, _, _, arr2, ho2, _⟩ := hr.blk b _ hb2 rfl
                rw [h1] at hq1; cases hq1
                rw [h2] at hq2; cases hq2
                have hne : r ≠ r' := by
                  intro hrr; subst hrr
                  obtain ⟨g, hg1, hg2⟩ := hr.sep a b _ _ r hab hb1 rfl hb2 rfl h1 h2
                  simp only [Blk.grp?, Option.some.injEq] at hg1 hg2
                  omega
                simp [Op.equalIn, run_underlying hu, hz, run_sameAddr_apart ho1 ho2 hne]
            · cases h
        · cases h
      · obtain ⟨a, b, ha, hb, hor, hk⟩ := nilEqK_true h
        refine ⟨_, hk, fun N μ w X Y n hn hr hX hY => ?_⟩
        obtain ⟨m, rfl, hm⟩ := ge_succ hn
        obtain ⟨p, rfl, rfl⟩ := nilPtr_VR ha hX
        obtain ⟨q, rfl, rfl⟩ := nilPtr_VR hb hY
        cases p with
        | none => simp [Op.equalIn, run_underlying hu]
        | some p => cases q with
          | none => simp [Op.equalIn, run_underlying hu]
          | some q => simp at hor
    · -- slice
      rename_i e hu
      have hu := und_some P hu
      obtain ⟨a, b, ha, hb, hor, hk⟩ := nilEqK_true h
      refine ⟨_, hk, fun N μ w X Y n hn hr hX hY => ?_⟩
      obtain ⟨m, rfl, hm⟩ := ge_succ hn
      obtain ⟨p, n1, c1, rfl, rfl⟩ := nilSlc_VR ha hX
      obtain ⟨q, n2, c2, rfl, rfl⟩ := nilSlc_VR hb hY
      cases p with
      | none => simp [Op.equalIn, run_underlying hu]
      | some p => cases q with
        | none => simp [Op.equalIn, run_underlying hu]
        | some q => simp at hor
    · -- map
      rename_i k e hu
      have hu := und_some P hu
      obtain ⟨a, b, ha, hb, hor, hk⟩ := nilEqK_true h
      refine ⟨_, hk, fun N μ w X Y n hn hr hX hY => ?_⟩
      obtain ⟨m, rfl, hm⟩ := ge_succ hn
      obtain ⟨p, rfl, rfl⟩ := nilMap_VR ha hX
      obtain ⟨q, rfl, rfl⟩ := nilMap_VR hb hY
      cases p with
      | none => simp [Op.equalIn, run_underlying hu]
      | some p => cases q with
        | none => simp [Op.equalIn, run_underlying hu]
        | some q => simp at hor
    · -- func
      rename_i x1 x2 x3 hu
      have hu := und_some P hu
      obtain ⟨a, b, ha, hb, hor, hk⟩ := nilEqK_true h
      refine ⟨_, hk, fun N μ w X Y n hn hr hX hY => ?_⟩
      obtain ⟨m, rfl, hm⟩ := ge_succ hn
      rcases nilFun_VR ha hX with ⟨rfl, rfl⟩ | ⟨rfl, f1, a1, c1, rfl⟩ <;> rcases nilFun_VR hb hY with ⟨rfl, rfl⟩ | ⟨rfl, f2, a2, c2, rfl⟩ <;>
        first | (simp at hor; done) | simp [Op.equalIn, run_underlying hu]
    · -- interface
      rename_i ms hu
      have hu := und_some P hu
      split at h
      · refine ⟨_, h, fun N μ w X Y n hn hr hX hY => ?_⟩
        obtain ⟨m, rfl, hm⟩ := ge_succ hn
        simp only [VR] at hX hY; subst hX hY
        simp [Op.equalIn, run_underlying hu]
      · refine ⟨_, h, fun N μ w X Y n hn hr hX hY => ?_⟩
        obtain ⟨m, rfl, hm⟩ := ge_succ hn
        simp only [VR] at hX hY; subst hX; obtain ⟨W, rfl, _⟩ := hY
        simp [Op.equalIn, run_underlying hu]
      · refine ⟨_, h, fun N μ w X Y n hn hr hX hY => ?_⟩
        obtain ⟨m, rfl, hm⟩ := ge_succ hn
        simp only [VR] at hX hY; subst hY; obtain ⟨W, rfl, _⟩ := hX
        simp [Op.equalIn, run_underlying hu]
      · rename_i a v b v'
        split at h
        · rename_i hab
          have := of_beq hab; subst this
          split at h
          · rename_i hc
            obtain ⟨i, hi, hic⟩ := Option.map_eq_some_iff.1 hc
            have hi := tinfo_some P hi
            obtain ⟨r, hk, hr⟩ := ih _ _ _ _ h
            refine ⟨r, hk, fun N μ w X Y n hn hrel hX hY => ?_⟩
            obtain ⟨m, rfl, hm⟩ := ge_succ hn
            obtain ⟨V, rfl, hV⟩ := hX
            obtain ⟨W, rfl, hW⟩ := hY
            simp [Op.equalIn, run_underlying hu, run_typeInfo w hi, hic, hr N μ w V W m hm hrel hV hW]
          · cases h
        · rename_i hab
          have hab := of_beq_false hab
          refine ⟨_, h, fun N μ w X Y n hn hr hX hY => ?_⟩
          obtain ⟨m, rfl, hm⟩ := ge_succ hn
          obtain ⟨V, rfl, hV⟩ := hX
          obtain ⟨W, rfl, hW⟩ := hY
          simp [Op.equalIn, run_underlying hu, hab]
      · cases h
    · -- struct
      split at h
      · rename_i fs xs ys hs
        obtain ⟨h1, h2, rfl⟩ := structOf_some hs
        obtain ⟨r, hk, hr⟩ := eqFields_true ih _ h
        refine ⟨r, hk, fun N μ w X Y n hn hrel hX hY => ?_⟩
        obtain ⟨m, rfl, hm⟩ := ge_succ hn
        obtain ⟨V, rfl, hV⟩ := hX
        obtain ⟨W, rfl, hW⟩ := hY
        rw [run_equalIn_struct w m t V W h1 h2]
        exact hr N μ w V W m hm hrel hV hW
      · cases h
    · -- array
      rename_i len e hu
      have hu := und_some P hu
      split at h
      · rename_i s xs ys hs
        obtain ⟨r, hk, hr⟩ := eqItems_true ih _ h
        refine ⟨r, hk, fun N μ w X Y n hn hrel hX hY => ?_⟩
        obtain ⟨m, rfl, hm⟩ := ge_succ hn
        obtain ⟨V, rfl, hV⟩ := hX
        obtain ⟨W, rfl, hW⟩ := hY
        obtain ⟨i, hi, rfl⟩ := Option.map_eq_some_iff.1 hs
        have hi := tinfo_some P hi
        rw [run_equalIn_array w m V W hu hi, show P.cellsOf e = i.size by simp [Program.cellsOf, hi]]
        exact hr N μ w V W m hm hrel hV hW
      · cases h
    · cases h
end
end Go.Shd
/- Operators, conversions, type assertions. -/
namespace Go.Shd
noncomputable section
variable {G : Globals} {P : Program} {o : Oper} {tm : T AV} {st : St} {K : ONext → St → Bool}

theorem VR_nilIface {μ : Mu} {a : AV} (h : VR μ a .nilIface) : a = .lit .nilIface := by
  cases a <;> simp only [VR] at h <;> (first | (rw [← h]) | (exfalso; revert h; simp))

theorem VR_agg {μ : Mu} {a : AV} {A : Array Value} (h : VR μ a (.agg A)) : (∃ l, a = .agg l) ∨ a = .lit (.agg A) := by
  cases a <;> simp only [VR] at h <;> (first | (exact .inr (by rw [← h])) | (exact .inl ⟨_, rfl⟩) | (exfalso; revert h; simp))

theorem guardOk_run {op : BinOp} {t : TypeId} {x y : Operand} {a b : AV} (h : guardOk P op t x y a b = true) {μ : Mu} {X Y : Value} (hX : VR μ a X) (hY : VR μ b Y) (w : World) :
    (eqGuard op t x y X Y).run P w = .ok () w := by
  by_cases hop : op = .eql ∨ op = .neq
  case neg => cases op <;> first | (exact absurd (.inl rfl) hop) | (exact absurd (.inr rfl) hop) | rfl
  by_cases h1 : X = .nilIface ∧ Y = .nilIface
  · obtain ⟨rfl, rfl⟩ := h1
    have e1 := VR_nilIface hX; have e2 := VR_nilIface hY
    subst e1 e2
    rcases hop with rfl | rfl <;> cases x <;> cases y <;> first | (simp [guardOk] at h; done) | rfl
  · by_cases h2 : (∃ A, X = .agg A) ∧ ∃ B, Y = .agg B
    · obtain ⟨⟨A, rfl⟩, B, rfl⟩ := h2
      have hg : P.eqGuardType P.depth t = false := by
        rcases VR_agg hX with ⟨l, rfl⟩ | rfl <;> rcases VR_agg hY with ⟨m, rfl⟩ | rfl
        · cases hq : P.eqGuardType P.depth t with
          | false => rfl
          | true => rcases hop with rfl | rfl <;> simp [guardOk, hq] at h
        all_goals (rcases hop with rfl | rfl <;> simp [guardOk] at h)
      exact run_eqGuard_agg w op t x y A B hg
    · rcases hop with rfl | rfl <;> cases X <;> (try rfl) <;> cases Y <;> first | rfl | (exact absurd ⟨rfl, rfl⟩ h1) | (exact absurd ⟨⟨_, rfl⟩, _, rfl⟩ h2)

theorem semOk_true {s : Sem Value} {K : AV → Bool} (h : semOk s K = true) : ∃ v V, K v = true ∧ s = .pure V ∧ ∀ μ, VR μ v V := by
  unfold semOk at h
  split at h
  · rw [intK_eq] at h; exact ⟨_, _, h, rfl, fun μ => by simp [VR]⟩
  · rw [boolK_eq] at h; exact ⟨_, _, h, rfl, fun μ => by simp [VR]⟩
  · cases h

theorem intLe_eq (a b : Int) : intLe a b = decide (a ≤ b) := by
  have nb : ∀ m n : Nat, Nat.ble m n = decide (m ≤ n) := fun m n => by
    by_cases h : m ≤ n
    · rw [Nat.ble_eq_true_of_le h]; simp [h]
    · cases hb : Nat.ble m n with
      | false => simp [h]
      | true => exact absurd (of_ble hb) h
  cases a with
  | ofNat m => cases b with
    | ofNat n => simp only [intLe, nb]; congr 1; simp
    | negSucc n => simp only [intLe]; symm; simp; omega
  | negSucc m => cases b with
    | ofNat n => simp only [intLe]; symm; simp; omega
    | negSucc n => simp only [intLe, nb]; congr 1; simp; omega

theorem intLt_eq (a b : Int) : intLt a b = decide (a < b) := by
  unfold intLt
  rw [intLe_eq]
  by_cases h : b ≤ a
  · rw [show decide (b ≤ a) = true from decide_eq_true h]; symm; simp; omega
  · rw [show decide (b ≤ a) = false from decide_eq_false h]; symm; simp; omega

theorem ltL_bytes : ∀ (a b : List UInt8), ltL (a.map (·.toNat)) (b.map (·.toNat)) = Op.bytesLess a b
  | [], [] => rfl
  | _ :: _, [] => rfl
  | [], _ :: _ => rfl
  | a :: l, b :: m => by
    simp only [List.map_cons, ltL, Op.bytesLess]
    split
    · rename_i h
      have : a < b := UInt8.lt_iff_toNat_lt.2 (of_blt h)
      simp [this]
    · rename_i h
      have h1 := of_blt_false h
      have : ¬ a < b := fun h => by have := UInt8.lt_iff_toNat_lt.1 h; omega
      simp only [this, decide_false, Bool.false_or]
      split
      · rename_i h2
        have : a = b := UInt8.toNat_inj.1 (of_beq h2)
        subst this; simp [ltL_bytes l m]
      · rename_i h2
        have : a ≠ b := fun e => by subst e; exact absurd rfl (of_beq_false h2)
        simp [this]

theorem ltL_str (s t : ByteArray) : ltL (bytesOf s) (bytesOf t) = Op.bytesLess s.toList t.toList := by
  rw [ByteArray.toList_eq, ByteArray.toList_eq]; exact ltL_bytes _ _

theorem bytesLess_swap : ∀ (x y : List UInt8), (Op.bytesLess x y || x == y) = !(Op.bytesLess y x)
  | [], [] => rfl
  | _ :: _, [] => rfl
  | [], _ :: _ => rfl
  | a :: l, b :: m => by
    have ih := bytesLess_swap l m
    simp only [Op.bytesLess]
    rcases Nat.lt_trichotomy a.toNat b.toNat with h | h | h
    · have h1 : a < b := UInt8.lt_iff_toNat_lt.2 h
      have h2 : ¬ b < a := fun h' => by have := UInt8.lt_iff_toNat_lt.1 h'; omega
      have h3 : ¬ b = a := fun e => by subst e; omega
      simp [h1, h2, h3]
    · have : a = b := UInt8.toNat_inj.1 h
      subst this
      have h1 : ¬ a < a := fun h' => by have := UInt8.lt_iff_toNat_lt.1 h'; omega
      simpa [h1] using ih
    · have h1 : b < a := UInt8.lt_iff_toNat_lt.2 h
      have h2 : ¬ a < b := fun h' => by have := UInt8.lt_iff_toNat_lt.1 h'; omega
      have h3 : ¬ a = b := fun e => by subst e; omega
      simp [h1, h2, h3]

theorem bytesOf_append (s t : ByteArray) : bytesOf (s ++ t) = bytesOf s ++ bytesOf t := by simp [bytesOf]
theorem bytesOf_length (s : ByteArray) : (bytesOf s).length = s.size := by simp [bytesOf]

theorem numLit_num {μ : Mu} {x : AV} {X : Value} (h : numLit x = false) (hX : VR μ x X) : (∀ k n, X = .int k n → x = .int k n) ∧ (∀ k n, X ≠ .float k n) ∧ (∀ k a b, X ≠ .complex k a b) ∧ (∀ s, X = .string s → ∃ l, x = .str l) := by
  cases x with
  | lit v =>
    simp only [VR] at hX; subst hX
    refine ⟨?_, ?_, ?_, ?_⟩ <;> intros <;> (try intro) <;> subst_vars <;> simp [numLit] at h
  | int k n => simp only [VR] at hX; subst hX; simp
  | str l => obtain ⟨s, rfl, _⟩ := hX; simp
  | ptr => obtain ⟨r, _, rfl⟩ := hX; simp
  | gptr => simp only [VR] at hX; subst hX; simp
  | slc => obtain ⟨r, c, _, _, rfl⟩ := hX; simp
  | eslc => obtain ⟨a, c, rfl⟩ := hX; simp
  | mp => obtain ⟨r, _, rfl⟩ := hX; simp
  | fn => obtain ⟨A, B, rfl, _⟩ := hX; simp
  | yld => obtain ⟨r, _, rfl⟩ := hX; simp
  | ifc => obtain ⟨W, rfl, _⟩ := hX; simp
  | agg => obtain ⟨W, rfl, _⟩ := hX; simp
  | tup => obtain ⟨W, rfl, _⟩ := hX; simp

theorem binOp_eql {t : TypeId} {X Y : Value} (h1 : ∀ k a k' b, X = .int k a → Y = .int k' b → False) (h2 : ∀ k a, X ≠ .float k a) (h3 : ∀ k a b, X ≠ .complex k a b)
    (h4 : ∀ a b, X = .string a → Y = .string b → False) : Go.binOp .eql t X Y = (do pure (.bool (← Op.equal t X Y))) := by
  unfold Go.binOp
  split <;> first
    | (rename_i h; cases h; done)
    | rfl
    | (exfalso; exact h1 _ _ _ _ rfl rfl)
    | (exfalso; exact h2 _ _ rfl)
    | (exfalso; exact h3 _ _ _ rfl)
    | (exfalso; exact h4 _ _ rfl rfl)
    | simp_all

theorem binOp_neq {t : TypeId} {X Y : Value} (h1 : ∀ k a k' b, X = .int k a → Y = .int k' b → False) (h2 : ∀ k a, X ≠ .float k a) (h3 : ∀ k a b, X ≠ .complex k a b)
    (h4 : ∀ a b, X = .string a → Y = .string b → False) : Go.binOp .neq t X Y = (do pure (.bool (!(← Op.equal t X Y)))) := by
  unfold Go.binOp
  split <;> first
    | (rename_i h; cases h; done)
    | rfl
    | (exfalso; exact h1 _ _ _ _ rfl rfl)
    | (exfalso; exact h2 _ _ rfl)
    | (exfalso; exact h3 _ _ _ rfl)
    | (exfalso; exact h4 _ _ rfl rfl)
    | simp_all

theorem appK_true {α : Type} {l m : List α} {K : List α → Bool} : appK l m K = K (l ++ m) := by
  induction l generalizing K with
  | nil => rfl
  | cons x l ih => show appK l m (fun r => K (x :: r)) = _; rw [ih]; rfl

def BinS (P : Program) (G : Globals) (st : St) (op : BinOp) (t : TypeId) (x y v : AV) : Prop :=
  ∀ N μ w X Y, Rel G N μ st w → VR μ x X → VR μ y Y → ∃ V, (Go.binOp op t X Y).run P w = .ok V w ∧ VR μ v V

theorem binInt_cmp {op : BinOp} {t : TypeId} {k : IntKind} {a b : Int} {r : Bool} (h : ∀ w, (Go.binOp op t (.int k a) (.int k b)).run P w = .ok (.bool r) w) : BinS P G st op t (.int k a) (.int k b) (.lit (.bool r)) := by
  intro N μ w X Y _ hX hY
  simp only [VR] at hX hY; subst hX hY
  exact ⟨_, h w, by simp [VR]⟩

theorem binStr_cmp {op : BinOp} {t : TypeId} {a b : List Nat} {r : Bool} (h : ∀ s s' : ByteArray, bytesOf s = a → bytesOf s' = b → ∀ w, (Go.binOp op t (.string s) (.string s')).run P w = .ok (.bool r) w) :
    BinS P G st op t (.str a) (.str b) (.lit (.bool r)) := by
  intro N μ w X Y _ hX hY
  obtain ⟨s, rfl, hs⟩ := hX
  obtain ⟨s', rfl, hs'⟩ := hY
  exact ⟨_, h s s' hs hs' w, by simp [VR]⟩

theorem binK_true {op : BinOp} {t : TypeId} {x y : AV} {K : AV → Bool} (h : binK P st op t x y K = true) : ∃ v, K v = true ∧ BinS P G st op t x y v := by
  unfold binK at h
  split at h
  · rename_i k a k' b
    split at h
    all_goals try (
      split at h
      case h_2 => cases h
      rename_i hk
      have hk : k = k' := of_decide_eq_true hk
      subst hk
      rw [boolK_eq] at h
      refine ⟨_, h, binInt_cmp fun w => ?_⟩
      (try rw [intBeq_eq]) <;> (try rw [intLt_eq]) <;> (try rw [intLe_eq])
      simp [Go.binOp, Op.intCmp, bne]
      done)
    · obtain ⟨v, V, hk, e, hv⟩ := semOk_true h
      refine ⟨v, hk, fun N μ w X Y _ hX hY => ?_⟩
      simp only [VR] at hX hY; subst hX hY
      exact ⟨V, by rw [e]; rfl, hv μ⟩
  · rename_i a b
    split at h
    · split at h
      · rename_i hlt
        have hlt := of_blt hlt
        rw [appK_true] at h
        refine ⟨_, h, fun N μ w X Y _ hX hY => ?_⟩
        obtain ⟨s, rfl, rfl⟩ := hX
        obtain ⟨s', rfl, rfl⟩ := hY
        simp only [Nat.add_eq, bytesOf_length] at hlt
        have hm : ¬ ((s.size + s'.size : Nat) : Int) > IntKind.i64.max := by
          have : IntKind.i64.max = 9223372036854775807 := by decide
          rw [this]; omega
        refine ⟨.string (s ++ s'), ?_, ⟨_, rfl, bytesOf_append s s'⟩⟩
        simp only [Go.binOp, Op.stringOp]
        rw [if_neg hm]; rfl
      · cases h
    all_goals try (
      rw [boolK_eq] at h
      refine ⟨_, h, binStr_cmp fun s s' hs hs' w => ?_⟩
      subst hs hs'
      (try rw [beqL_eq]) <;> (try rw [ltL_str]) <;> (try rw [← bytes_beqL])
      have h1 := bytesLess_swap s.toList s'.toList
      have h2 := bytesLess_swap s'.toList s.toList
      first
        | (simp [Go.binOp, Op.stringOp]; done)
        | (simp [Go.binOp, Op.stringOp, h1]; done)
      done)
    · cases h
  · rename_i hni hns
    split at h
    case h_2 => cases h
    rename_i hx hy
    split at h
    · obtain ⟨r, hk, hr⟩ := eqK_true (G := G) _ _ _ _ _ h
      refine ⟨_, hk, fun N μ w X Y hrel hX hY => ⟨.bool r, ?_, by simp [VR]⟩⟩
      obtain ⟨a1, a2, a3, a4⟩ := numLit_num hx hX
      obtain ⟨b1, b2, b3, b4⟩ := numLit_num hy hY
      rw [binOp_eql (fun k a k' b h1 h2 => hni _ _ _ _ (a1 _ _ h1) (b1 _ _ h2)) a2 a3 (fun a b h1 h2 => by obtain ⟨_, e1⟩ := a4 _ h1; obtain ⟨_, e2⟩ := b4 _ h2; exact hns _ _ e1 e2)]
      have : (Op.equal t X Y).run P w = .ok r w := hr N μ w X Y 10000 (by omega) hrel hX hY
      simp [this]
    · obtain ⟨r, hk, hr⟩ := eqK_true (G := G) _ _ _ _ _ h
      rw [boolK_eq] at hk
      refine ⟨_, hk, fun N μ w X Y hrel hX hY => ⟨.bool (!r), ?_, by simp [VR]⟩⟩
      obtain ⟨a1, a2, a3, a4⟩ := numLit_num hx hX
      obtain ⟨b1, b2, b3, b4⟩ := numLit_num hy hY
      rw [binOp_neq (fun k a k' b h1 h2 => hni _ _ _ _ (a1 _ _ h1) (b1 _ _ h2)) a2 a3 (fun a b h1 h2 => by obtain ⟨_, e1⟩ := a4 _ h1; obtain ⟨_, e2⟩ := b4 _ h2; exact hns _ _ e1 e2)]
      have : (Op.equal t X Y).run P w = .ok r w := hr N μ w X Y 10000 (by omega) hrel hX hY
      simp [this]
    · cases h

theorem sound_binOp {op : BinOp} {t : TypeId} {x y : Operand} {u : TypeId} (ho : o.op = .binOp op t x y u) (h : evK tm x (fun a => evK tm y fun b => match guardOk P op t x y a b with
    | true => binK P st op t a b fun v => K (.val v) st
    | false => false) = true) : SoundX P G o tm st K := by
  obtain ⟨a, h1, ha⟩ := evK_true h
  clear h
  obtain ⟨b, h2, hb⟩ := evK_true h1
  clear h1
  split at h2
  case h_2 => cases h2
  rename_i hg
  obtain ⟨v, hk, hv⟩ := binK_true (G := G) h2
  refine Sound.same hk fun N μ w ρ _ hr hx => ?_
  have hA := ha μ ρ (hx x (by simp [ho, Op.operands]))
  have hB := hb μ ρ (hx y (by simp [ho, Op.operands]))
  obtain ⟨V, h1, h2⟩ := hv N μ w _ _ hr hA hB
  exact ⟨V, by simp [execOp, ho, guardOk_run hg hA hB w, h1], h2⟩

theorem sound_unOp {op : UnOp} {t : TypeId} {x : Operand} (h : evK tm x (fun v => match op, v with
    | .not, .lit (.bool b) => boolK (!b) fun b => K (.val (.lit (.bool b))) st
    | op, .int k n => semOk (Op.unary op (.int k n)) fun v => K (.val v) st
    | _, _ => false) = true) (ho : o.op = .unOp op t x) : SoundX P G o tm st K := by
  obtain ⟨v, h1, hv⟩ := evK_true h
  clear h
  split at h1
  · have ho' : o.op = .unOp .not t x := by assumption
    rw [boolK_eq] at h1
    refine Sound.same h1 fun N μ w ρ _ hr hx => ?_
    have hA := hv μ ρ (hx x (by simp [ho', Op.operands]))
    simp only [VR] at hA
    exact ⟨_, by simp [execOp, ho', hA, Op.unary]; rfl, by simp [VR]⟩
  · obtain ⟨v', V, hk, e, hv'⟩ := semOk_true h1
    refine Sound.same hk fun N μ w ρ _ hr hx => ?_
    have hA := hv μ ρ (hx x (by simp [ho, Op.operands]))
    simp only [VR] at hA
    exact ⟨V, by simp only [execOp, ho, hA, e]; rfl, hv' μ⟩
  · cases h1

theorem strK_true {cs : List AV} {K : List Nat → Bool} (h : strK cs K = true) : ∃ l, K l = true ∧ ∀ μ (m : List Value), VRs μ cs m → ∃ ns : List Int, m = ns.map (Value.int .u8) ∧ ns.map (fun n => (UInt8.ofNat n.toNat).toNat) = l := by
  induction cs generalizing K with
  | nil => exact ⟨[], h, fun μ m hm => ⟨[], by simpa using hm, rfl⟩⟩
  | cons c cs ih =>
    unfold strK at h
    split at h
    · rename_i heq; cases heq
    · rename_i n l heq
      cases heq
      split at h
      · rename_i hn
        have hn := of_blt hn
        obtain ⟨l', hk, hl⟩ := ih h
        refine ⟨n :: l', hk, fun μ m hm => ?_⟩
        obtain ⟨V, m', rfl, hV, hm'⟩ := (VRs_cons _ _ _).1 hm
        obtain ⟨ns, rfl, rfl⟩ := hl μ m' hm'
        simp only [VR] at hV; subst hV
        refine ⟨(n : Int) :: ns, by simp, ?_⟩
        simp; omega
      · cases h
    · cases h
end
end Go.Shd
/- Conversions, type assertions, maps. -/
namespace Go.Shd
noncomputable section
variable {G : Globals} {P : Program} {o : Oper} {tm : T AV} {st : St} {K : ONext → St → Bool}

theorem convK_true {src dst : TypeId} {x : AV} {K : AV → St → Bool} (h : convK P G src dst st x K = true) : ∃ v, K v st = true ∧
    ∀ N μ w X, Rel G N μ st w → VR μ x X → ∃ V, (convert src dst X).run P w = .ok V w ∧ VR μ v V := by
  unfold convK at h
  split at h
  · rename_i hs hd
    have hs := und_some P hs
    have hd := und_some P hd
    rw [intK_eq] at h
    refine ⟨_, h, fun N μ w X hr hX => ?_⟩
    simp only [VR] at hX; subst hX
    exact ⟨_, by simp [convert, run_underlying hs, run_underlying hd, Conv.intToInt]; rfl, by simp [VR]⟩
  · rename_i hs hd
    have hs := und_some P hs
    have hd := und_some P hd
    refine ⟨_, h, fun N μ w X hr hX => ?_⟩
    obtain ⟨s, rfl, hs'⟩ := hX
    exact ⟨.string s, by simp [convert, run_underlying hs, run_underlying hd], ⟨s, rfl, hs'⟩⟩
  · rename_i e hs hd _
    have hs := und_some P hs
    have hd := und_some P hd
    split at h
    · rename_i hu8
      have he := und_some P hu8
      split at h
      · refine ⟨_, h, fun N μ w X hr hX => ?_⟩
        simp only [VR] at hX; subst hX
        refine ⟨.string .empty, ?_, ⟨_, rfl, rfl⟩⟩
        rw [run_convert_bytes_string w src dst e _ _ _ hs he hd]
        simp [Conv.bytesToString]
      · rename_i id off len lb ex
        obtain ⟨cs, h1, hlen, hcs⟩ := readK_true h
        clear h
        obtain ⟨l, h2, hl⟩ := strK_true h1
        refine ⟨_, h2, fun N μ w X hr hX => ?_⟩
        obtain ⟨r, c, hm, hex, rfl⟩ := hX
        obtain ⟨r', o', arr, e', fz, he', hb, hle, hv⟩ := hcs N μ w (.pointer (some ⟨r, _, none⟩)) hr ⟨r, hm, rfl⟩
        cases he'
        obtain ⟨ns, h3, h4⟩ := hl μ _ hv
        refine ⟨.string (ns.foldl (fun r n => r.push (UInt8.ofNat n.toNat)) ByteArray.empty), ?_, ⟨_, rfl, ?_⟩⟩
        · rw [run_convert_bytes_string w src dst e _ _ _ hs he hd]
          exact run_bytesToString w ⟨r, _, none⟩ _ _ ns (by
            rw [run_cells hb (by omega)]
            simp only [Nat.add_zero] at h3
            rw [h3])
        · rw [foldl_push_bytes, ← h4]
          unfold bytesOf
          simp [ByteArray.empty, ByteArray.emptyWithCapacity, Function.comp_def]
          rfl
      · cases h
    · cases h
  · cases h

theorem sound_convert {src dst : TypeId} {x : Operand} (ho : o.op = .convert src dst x) (h : evK tm x (fun v => convK P G src dst st v fun v st => K (.val v) st) = true) : SoundX P G o tm st K := by
  obtain ⟨a, h1, ha⟩ := evK_true h
  obtain ⟨v, hk, hv⟩ := convK_true h1
  refine Sound.same hk fun N μ w ρ _ hr hx => ?_
  obtain ⟨V, h2, h3⟩ := hv N μ w _ hr (ha μ ρ (hx x (by simp [ho, Op.operands])))
  exact ⟨V, by simp [execOp, ho, h2], h3⟩

theorem zeroVal_run {t : TypeId} {z : AV} (h : zeroVal P t = some z) (μ : Mu) (w : World) : ∃ Z, (zeroValue t).run P w = .ok Z w ∧ VR μ z Z := by
  unfold zeroVal at h
  split at h
  · rename_i v hv
    obtain ⟨i, hi, hz⟩ := Option.bind_eq_some_iff.1 hv
    have := tinfo_some P hi
    exact ⟨v, by simp [zeroValue, typeInfo, this, hz], ofVal_VR μ _ _ h⟩
  · cases h

theorem sound_typeAssert {x : Operand} {xt t : TypeId} {ok : Bool} (h : evK tm x (fun v => match und P t, v with
    | some (.interface _), _ => false
    | some _, .ifc u w => match Nat.beq u t, ok with
      | true, true => K (.val (.tup [w, .lit (.bool true)])) st
      | true, false => K (.val w) st
      | false, true => match zeroVal P t with
        | some z => K (.val (.tup [z, .lit (.bool false)])) st
        | none => false
      | false, false => false
    | some _, .lit .nilIface => match ok, zeroVal P t with
      | true, some z => K (.val (.tup [z, .lit (.bool false)])) st
      | _, _ => false
    | _, _ => false) = true) (ho : o.op = .typeAssert x xt t ok) : SoundX P G o tm st K := by
  obtain ⟨a, h1, ha⟩ := evK_true h
  clear h
  split at h1
  · cases h1
  · rename_i D u v hD hu
    have hu := und_some P hu
    split at h1
    · rename_i hb
      have ho : o.op = .typeAssert x xt t true := by assumption
      have := of_beq hb; subst this
      refine Sound.same h1 fun N μ w ρ _ hr hx => ?_
      obtain ⟨W, hW, hW'⟩ := ha μ ρ (hx x (by simp [ho, Op.operands]))
      refine ⟨.tuple #[W, .bool true], ?_, ⟨_, rfl, by simp [VR, hW']⟩⟩
      simp only [execOp, ho, Instr.typeAssert, hW, Sem.run_bind, run_underlying hu, Result.andThen_ok]
      cases D <;> simp
      all_goals exact absurd rfl (hD _)
    · rename_i hb
      have ho : o.op = .typeAssert x xt t false := by assumption
      have := of_beq hb; subst this
      refine Sound.same h1 fun N μ w ρ _ hr hx => ?_
      obtain ⟨W, hW, hW'⟩ := ha μ ρ (hx x (by simp [ho, Op.operands]))
      refine ⟨W, ?_, hW'⟩
      simp only [execOp, ho, Instr.typeAssert, hW, Sem.run_bind, run_underlying hu, Result.andThen_ok]
      cases D <;> simp
      all_goals exact absurd rfl (hD _)
    · rename_i hb
      have hb := of_beq_false hb
      have ho : o.op = .typeAssert x xt t true := by assumption
      split at h1
      · rename_i z hz
        refine Sound.same h1 fun N μ w ρ _ hr hx => ?_
        obtain ⟨W, hW, hW'⟩ := ha μ ρ (hx x (by simp [ho, Op.operands]))
        obtain ⟨Z, hZ, hZ'⟩ := zeroVal_run (P := P) hz μ w
        refine ⟨.tuple #[Z, .bool false], ?_, ⟨_, rfl, by simp [VR, hZ']⟩⟩
        simp only [execOp, ho, Instr.typeAssert, hW, Sem.run_bind, run_underlying hu, Result.andThen_ok]
        cases D <;> simp [hb, hZ]
        all_goals exact absurd rfl (hD _)
      · cases h1
    · cases h1
  · rename_i D hD hu
    have hu := und_some P hu
    split at h1
    · rename_i z hz
      have ho : o.op = .typeAssert x xt t true := by assumption
      refine Sound.same h1 fun N μ w ρ _ hr hx => ?_
      have hW := ha μ ρ (hx x (by simp [ho, Op.operands]))
      simp only [VR] at hW
      obtain ⟨Z, hZ, hZ'⟩ := zeroVal_run (P := P) hz μ w
      refine ⟨.tuple #[Z, .bool false], ?_, ⟨_, rfl, by simp [VR, hZ']⟩⟩
      simp only [execOp, ho, Instr.typeAssert, hW, Sem.run_bind, run_underlying hu, Result.andThen_ok]
      cases D <;> simp [hZ]
      all_goals exact absurd rfl (hD _)
    · cases h1
  · cases h1
end
end Go.Shd
/- Maps. -/
namespace Go.Shd
noncomputable section
variable {G : Globals} {P : Program} {o : Oper} {tm : T AV} {st : St} {K : ONext → St → Bool}

theorem run_getO {w : World} {r : Nat} {o : Obj} (h : w.heap[r]? = some o) (hn : ∀ a e f, o ≠ .cells a e f) : (getObj r).run P w = .ok o w := by
  cases o <;> first | (exact absurd rfl (hn _ _ _)) | simp [getObj, Sem.run, h]
theorem run_setO {w : World} {r : Nat} {o : Obj} (o' : Obj) (h : w.heap[r]? = some o) (hn : ∀ a e f, o ≠ .cells a e f) : (setObj r o').run P w = .ok () (wput w r o') := by
  cases o <;> first | (exact absurd rfl (hn _ _ _)) | simp [setObj, Sem.run, h, wput]

theorem bytesOf_inj {s t : ByteArray} (h : bytesOf s = bytesOf t) : s = t := by
  have : s.data.toList = t.data.toList := List.map_inj_right (f := fun x : UInt8 => x.toNat) (by intro x y h; exact UInt8.toNat_inj.1 h) |>.1 h
  cases s; cases t; simp at this; simp [this]

theorem sameAtom_VR {μ : Mu} {a b : AV} {A B : Value} (h : sameAtom a b = true) (hA : VR μ a A) (hB : VR μ b B) (n : Nat) : A = B ∧ Instr.sameBits n A B = true := by
  unfold sameAtom at h
  split at h
  · split at h
    · rename_i hk
      have hk := of_decide_eq_true hk
      subst hk
      rw [intBeq_eq] at h
      have h := eq_of_beq h
      subst h
      simp only [VR] at hA hB; subst hA hB
      exact ⟨rfl, by cases n <;> simp [Instr.sameBits]⟩
    · cases h
  · rw [beqL_eq] at h
    have h := eq_of_beq h
    subst h
    obtain ⟨s, rfl, h1⟩ := hA
    obtain ⟨s', rfl, h2⟩ := hB
    have := bytesOf_inj (h1.trans h2.symm)
    subst this
    have hs : (s == s) = true := by rw [bytes_beq]; simp
    exact ⟨rfl, by cases n <;> simp [Instr.sameBits, hs]⟩
  · have h := eq_of_beq h
    subst h
    simp only [VR] at hA hB; subst hA hB
    exact ⟨rfl, by cases n <;> simp [Instr.sameBits]⟩
  · split at h
    · rename_i hb
      have := of_beq hb; subst this
      have := of_beq h; subst this
      obtain ⟨r, h1, rfl⟩ := hA
      obtain ⟨r', h2, rfl⟩ := hB
      rw [h1] at h2; cases h2
      exact ⟨rfl, by cases n <;> simp [Instr.sameBits]⟩
    · cases h
  · cases h

theorem sameAtoms_VR {μ : Mu} : ∀ {l m : List AV} {A B : List Value}, sameAtoms l m = true → VRs μ l A → VRs μ m B → ∀ n, A = B ∧ (A.zip B).all (fun (x, y) => Instr.sameBits n x y) = true
  | [], [], A, B, _, hA, hB, n => by simp at hA hB; subst hA hB; simp
  | [], _ :: _, _, _, h, _, _, _ => by simp [sameAtoms] at h
  | _ :: _, [], _, _, h, _, _, _ => by simp [sameAtoms] at h
  | a :: l, b :: m, A, B, h, hA, hB, n => by
    simp only [sameAtoms] at h
    split at h
    · rename_i h0
      obtain ⟨V, A', rfl, hV, hA'⟩ := (VRs_cons _ _ _).1 hA
      obtain ⟨W, B', rfl, hW, hB'⟩ := (VRs_cons _ _ _).1 hB
      obtain ⟨e1, e2⟩ := sameAtom_VR h0 hV hW n
      obtain ⟨e3, e4⟩ := sameAtoms_VR h hA' hB' n
      subst e1 e3
      exact ⟨rfl, by simp only [List.zip_cons_cons, List.all_cons, e2, e4, Bool.and_self]⟩
    · cases h

theorem sameKey_VR {μ : Mu} {a b : AV} {A B : Value} (h : sameKey a b = true) (hA : VR μ a A) (hB : VR μ b B) : A = B ∧ Instr.sameBits 10000 A B = true := by
  unfold sameKey at h
  split at h
  · split at h
    · obtain ⟨V, rfl, hV⟩ := hA
      obtain ⟨W, rfl, hW⟩ := hB
      obtain ⟨e1, e2⟩ := sameAtoms_VR h hV hW 9999
      have : V = W := by cases V; cases W; simpa using e1
      subst this
      refine ⟨rfl, ?_⟩
      rw [show (10000 : Nat) = 9999 + 1 from rfl, Instr.sameBits]
      simp only [BEq.rfl, Bool.true_and]
      exact e2
    · cases h
  · exact sameAtom_VR h hA hB _

/-! ### Keys that may stand -/
theorem run_forIn_unit {α : Type} {w : World} {f : α → PUnit → Sem (ForInStep PUnit)} : ∀ (l : List α), (∀ x ∈ l, (f x ⟨⟩).run P w = .ok (.yield ⟨⟩) w) → (forIn l PUnit.unit f).run P w = .ok ⟨⟩ w
  | [], _ => by simp
  | x :: l, h => by
    rw [List.forIn_cons, Sem.run_bind, h x (by simp)]
    simpa using run_forIn_unit l (fun y hy => h y (by simp [hy]))

theorem keyFit_run : ∀ (d : Nat) {t : TypeId} {v : AV}, keyFit P d t v = true → ∀ {μ : Mu} {V : Value}, VR μ v V → ∀ (w : World) (e : Bool) (n : Nat), d ≤ n → (Instr.checkKey e n t V).run P w = .ok () w
  | 0, _, _, h, _, _, _, _, _, _, _ => by simp [keyFit] at h
  | d + 1, t, v, h, μ, V, hV, w, e, n, hn => by
    obtain ⟨n, rfl, hn'⟩ := ge_succ hn
    unfold keyFit at h
    split at h
    · rename_i hu; simp [Instr.checkKey, run_underlying (und_some P hu)]
    · rename_i hu; simp [Instr.checkKey, run_underlying (und_some P hu)]
    · rename_i hu; simp [Instr.checkKey, run_underlying (und_some P hu)]
    · rename_i hu; simp [Instr.checkKey, run_underlying (und_some P hu)]
    · rename_i fs hu
      have hu := und_some P hu
      split at h
      · rename_i cs
        obtain ⟨C, rfl, hC⟩ := hV
        simp only [Instr.checkKey, Sem.run_bind, run_underlying hu, Result.andThen_ok]
        rw [← Array.forIn_toList, run_forIn_unit]
        · simp
        · intro f hf
          have := List.all_eq_true.1 h f hf
          obtain ⟨x, hx, hp⟩ := partK_true this
          obtain ⟨X, h1, h2⟩ := hp μ w C hC
          by_cases hnm : f.name = "_"
          · simp [hnm]
          · simp [hnm, h1, keyFit_run d hx h2 w e n hn']
      · cases h
    · rename_i len el hu
      have hu := und_some P hu
      split at h
      · rename_i cs sz hs
        obtain ⟨C, rfl, hC⟩ := hV
        simp only [Instr.checkKey, Sem.run_bind, run_underlying hu, Result.andThen_ok]
        simp only [Std.Legacy.Range.forIn_eq_forIn_range', Std.Legacy.Range.size, Nat.sub_zero, Nat.add_one_sub_one, Nat.div_one]
        rw [run_forIn_unit]
        · simp
        · intro i hi
          have := List.all_eq_true.1 h i (by simpa [List.range_eq_range'] using hi)
          obtain ⟨x, hx, hp⟩ := partK_true this
          obtain ⟨X, h1, h2⟩ := hp μ w C hC
          simp only [Nat.mul_eq] at h1
          simp [sizeOf_run hs, h1, keyFit_run d hx h2 w e n hn']
      · cases h
    · cases h

/-! ### Finding a key -/
theorem findNow_asking {kt : TypeId} {D : TypeDesc} (hu : P.underlying kt = some D) {k : Value} (w : World) : ∀ (es : List MapEntry) (i : Nat) {r : Option (Nat × Value)}, Instr.findNow D k es i = some r →
    (Instr.findAsking kt k es i).run P w = .ok r w
  | [], i, r, h => by simp [Instr.findNow] at h; subst h; simp [Instr.findAsking]
  | e :: es, i, r, h => by
    have hsame : ∀ b, Instr.sameNow D k e.key = some b → (Op.equal kt k e.key).run P w = .ok b w := by
      intro b hb
      generalize e.key = q at hb ⊢
      unfold Instr.sameNow at hb
      split at hb
      · rename_i q j a j' b'
        split at hb
        · rename_i hj; subst hj; cases hb
          exact run_equalIn_int w 9999 kt _ _ _ _ hu
        · cases hb
      · cases hb
        unfold Op.equal Op.maxDepth
        rw [run_equalIn_string w 9999 kt _ _ hu, beq_toListBytes]
      · cases hb
        exact run_equalIn_bool w 9999 kt _ _ hu
      · cases hb
    simp only [Instr.findNow] at h
    split at h
    · rename_i hs; cases h
      simp [Instr.findAsking, hsame _ hs]
    · rename_i hs
      simp only [Instr.findAsking, Sem.run_bind, hsame _ hs, Result.andThen_ok]
      simpa using findNow_asking hu w es (i + 1) h
    · cases h

theorem run_findKey {kt : TypeId} {D : TypeDesc} (hu : P.underlying kt = some D) {k : Value} (w : World) (es : List MapEntry) : (Instr.findKey kt k es).run P w = (Instr.findAsking kt k es).run P w := by
  unfold Instr.findKey
  simp only [Sem.run_bind, run_underlying hu, Result.andThen_ok]
  cases h : Instr.findNow D k es 0 with
  | none => rfl
  | some r => simp only; rw [findNow_asking hu w es 0 h]; rfl

theorem ER_cons {μ : Mu} {e : AEntry} {l : List AEntry} {m : List MapEntry} : ER μ (e :: l) m ↔ ∃ E m', m = E :: m' ∧ (VR μ e.key E.key ∧ VR μ e.val E.val ∧ E.born = e.born) ∧ ER μ l m' := by simp [ER]
theorem ER_nil {μ : Mu} {m : List MapEntry} : ER μ [] m ↔ m = [] := by simp [ER]

def FR (μ : Mu) : Option (Nat × AV) → Option (Nat × Value) → Prop
  | none, R => R = none
  | some (i, v), R => ∃ V, R = some (i, V) ∧ VR μ v V

theorem findK_true {kt : TypeId} {k : AV} : ∀ {es : List AEntry} {i : Nat} {K : Option (Nat × AV) → Bool}, findK P st kt k es i K = true → ∃ r, K r = true ∧
    ∀ N μ w Kv (Es : List MapEntry), Rel G N μ st w → VR μ k Kv → ER μ es Es → ∃ R, (Instr.findAsking kt Kv Es i).run P w = .ok R w ∧ FR μ r R
  | [], i, K, h => ⟨none, h, fun N μ w Kv Es _ _ hE => by
      rw [ER_nil] at hE; subst hE; exact ⟨none, by simp [Instr.findAsking], rfl⟩⟩
  | e :: es, i, K, h => by
    simp only [findK] at h
    obtain ⟨b, h1, hb⟩ := eqK_true (G := G) _ _ _ _ _ h
    clear h
    cases b with
    | true =>
      refine ⟨_, h1, fun N μ w Kv Es hr hk hE => ?_⟩
      obtain ⟨E, Es', rfl, ⟨e1, e2, e3⟩, hE'⟩ := ER_cons.1 hE
      have : (Op.equal kt Kv E.key).run P w = .ok true w := hb N μ w _ _ 10000 (by omega) hr hk e1
      exact ⟨some (i, E.val), by simp [Instr.findAsking, this], _, rfl, e2⟩
    | false =>
      simp only [natK_eq, Nat.succ_eq_add_one] at h1
      obtain ⟨r, hK, hrr⟩ := findK_true h1
      refine ⟨r, hK, fun N μ w Kv Es hr hk hE => ?_⟩
      obtain ⟨E, Es', rfl, ⟨e1, e2, e3⟩, hE'⟩ := ER_cons.1 hE
      have : (Op.equal kt Kv E.key).run P w = .ok false w := hb N μ w _ _ 10000 (by omega) hr hk e1
      obtain ⟨R, h2, h3⟩ := hrr N μ w Kv Es' hr hk hE'
      exact ⟨R, by simp [Instr.findAsking, this, h2], h3⟩

theorem ER_get {μ : Mu} : ∀ {l : List AEntry} {m : List MapEntry}, ER μ l m → ∀ {i : Nat} {e : AEntry}, l[i]? = some e → ∃ E, m[i]? = some E ∧ VR μ e.key E.key ∧ VR μ e.val E.val ∧ E.born = e.born
  | [], _, _, i, e, he => by simp at he
  | x :: l, m, h, i, e, he => by
    obtain ⟨E, m', rfl, h1, h2⟩ := ER_cons.1 h
    cases i with
    | zero => simp at he; subst he; exact ⟨E, by simp, h1⟩
    | succ i => simp at he ⊢; exact ER_get h2 he

theorem setNth_true {α : Type} : ∀ {n : Nat} {x : α} {l : List α} {K : List α → Bool}, setNth n x l K = true → K (l.set n x) = true
  | _, _, [], _, h => by simp [setNth] at h
  | 0, _, _ :: _, _, h => by simpa [setNth] using h
  | n + 1, x, y :: l, K, h => by
    simp only [setNth] at h
    have := setNth_true h
    simpa using this

theorem ER_set {μ : Mu} : ∀ {l : List AEntry} {m : List MapEntry}, ER μ l m → ∀ (i : Nat) (e : AEntry) (f : MapEntry → MapEntry), (∀ E, m[i]? = some E → VR μ e.key (f E).key ∧ VR μ e.val (f E).val ∧ (f E).born = e.born) →
    ER μ (l.set i e) (m.modify i f)
  | [], m, h, i, e, f, hf => by rw [ER_nil] at h; subst h; cases i <;> simp [ER_nil]
  | x :: l, m, h, i, e, f, hf => by
    obtain ⟨E, m', rfl, h1, h2⟩ := ER_cons.1 h
    cases i with
    | zero => simp only [List.set_cons_zero, List.modify_zero_cons]; exact ER_cons.2 ⟨_, _, rfl, hf E (by simp), h2⟩
    | succ i => simp only [List.set_cons_succ, List.modify_succ_cons]; exact ER_cons.2 ⟨_, _, rfl, h1, ER_set h2 i e f (fun E hE => hf E (by simpa using hE))⟩

theorem ER_append {μ : Mu} : ∀ {l l' : List AEntry} {m m' : List MapEntry}, ER μ l m → ER μ l' m' → ER μ (l ++ l') (m ++ m')
  | [], _, m, m', h, h' => by rw [ER_nil] at h; subst h; simpa using h'
  | x :: l, l', m, m', h, h' => by
    obtain ⟨E, m1, rfl, h1, h2⟩ := ER_cons.1 h
    exact ER_cons.2 ⟨E, _, rfl, h1, ER_append h2 h'⟩

theorem ER_len {μ : Mu} : ∀ {l : List AEntry} {m : List MapEntry}, ER μ l m → l.length = m.length
  | [], m, h => by rw [ER_nil] at h; subst h; rfl
  | x :: l, m, h => by obtain ⟨E, m', rfl, h1, h2⟩ := ER_cons.1 h; simp [ER_len h2]

theorem lookupK_true {mt : TypeId} {x ix : AV} {ok : Bool} {K : AV → Bool} (h : lookupK P st mt x ix ok K = true) : ∃ v, K v = true ∧
    ∀ N μ w X I, Rel G N μ st w → VR μ x X → VR μ ix I → ∃ V, (Instr.lookup mt X I ok).run P w = .ok V w ∧ VR μ v V := by
  unfold lookupK at h
  split at h
  case h_2 => cases h
  rename_i kt et hu
  have hu := und_some P hu
  split at h
  case h_2 => cases h
  rename_i hkey
  have hku : ∃ D, P.underlying kt = some D := by
    unfold keyOk keyFit at hkey
    cases hq : und P kt with
    | none => simp [hq] at hkey
    | some D => exact ⟨D, und_some P hq⟩
  obtain ⟨D, hku⟩ := hku
  have main : ∃ (es : List AEntry), findK P st kt ix es 0 (foundK P et ok K) = true ∧
      ∀ N μ w X, Rel G N μ st w → VR μ x X → ∃ Es : Array MapEntry, ER μ es Es.toList ∧ ((X = .map none ∧ Es = #[]) ∨ ∃ r c, X = .map (some r) ∧ w.heap[r]? = some (.map Es c)) := by
    split at h
    · refine ⟨[], by simp only [findK]; exact h, fun N μ w X hr hX => ⟨#[], by simp [ER_nil], ?_⟩⟩
      simp only [VR] at hX
      exact .inl ⟨hX, rfl⟩
    · rename_i id
      split at h
      · rename_i es clock hb
        refine ⟨es, h, fun N μ w X hr hX => ?_⟩
        obtain ⟨r, hm, rfl⟩ := hX
        obtain ⟨r', hm', _, _, arr, ho, hE⟩ := hr.blk id _ hb rfl
        rw [hm] at hm'; cases hm'
        exact ⟨arr, hE, .inr ⟨r, clock, rfl, ho⟩⟩
      · cases h
    · cases h
  clear h
  obtain ⟨es, hf, hes⟩ := main
  obtain ⟨r, hk, hr⟩ := findK_true (G := G) hf
  clear hf
  have pre : ∀ N μ w X I, Rel G N μ st w → VR μ x X → VR μ ix I → ∃ R, FR μ r R ∧ ∀ V, (match R with
        | some (_, v) => V = (if ok then .tuple #[v, .bool true] else v)
        | none => ∃ Z, (zeroValue et).run P w = .ok Z w ∧ V = (if ok then .tuple #[Z, .bool false] else Z)) → (Instr.lookup mt X I ok).run P w = .ok V w := by
    intro N μ w X I hrel hX hI
    obtain ⟨Es, hE, hC⟩ := hes N μ w X hrel hX
    obtain ⟨R, h1, h2⟩ := hr N μ w I Es.toList hrel hI hE
    refine ⟨R, h2, fun V hV => ?_⟩
    have hck := fun e => keyFit_run 20 hkey hI w e 10000 (by omega)
    rcases hC with ⟨rfl, rfl⟩ | ⟨q, c, rfl, hq⟩
    · simp only [Array.toList_empty, List.toList_toArray] at h1
      cases R with
      | none => obtain ⟨Z, hZ, rfl⟩ := hV; simp [Instr.lookup, run_underlying hu, hck, run_findKey hku, h1, hZ]
      | some q => obtain ⟨j, v⟩ := q; simp only at hV; subst hV; simp [Instr.lookup, run_underlying hu, hck, run_findKey hku, h1]
    · have hg := run_getO (P := P) hq (by intros; simp)
      cases R with
      | none => obtain ⟨Z, hZ, rfl⟩ := hV; simp [Instr.lookup, run_underlying hu, hg, hck, run_findKey hku, h1, hZ]
      | some q => obtain ⟨j, v⟩ := q; simp only at hV; subst hV; simp [Instr.lookup, run_underlying hu, hg, hck, run_findKey hku, h1]
  cases r with
  | none =>
    simp only [foundK] at hk
    split at hk
    case h_2 => cases hk
    rename_i z hz
    cases ok with
    | true =>
      refine ⟨_, hk, fun N μ w X I hrel hX hI => ?_⟩
      obtain ⟨R, h1, h2⟩ := pre N μ w X I hrel hX hI
      obtain ⟨Z, hZ, hZ'⟩ := zeroVal_run (P := P) hz μ w
      simp only [FR] at h1; subst h1
      exact ⟨.tuple #[Z, .bool false], h2 _ ⟨Z, hZ, rfl⟩, ⟨_, rfl, by simp [VR, hZ']⟩⟩
    | false =>
      refine ⟨_, hk, fun N μ w X I hrel hX hI => ?_⟩
      obtain ⟨R, h1, h2⟩ := pre N μ w X I hrel hX hI
      obtain ⟨Z, hZ, hZ'⟩ := zeroVal_run (P := P) hz μ w
      simp only [FR] at h1; subst h1
      exact ⟨Z, h2 _ ⟨Z, hZ, rfl⟩, hZ'⟩
  | some q =>
    obtain ⟨i, v⟩ := q
    simp only [foundK] at hk
    cases ok with
    | true =>
      refine ⟨_, hk, fun N μ w X I hrel hX hI => ?_⟩
      obtain ⟨R, h1, h2⟩ := pre N μ w X I hrel hX hI
      obtain ⟨V, rfl, hV⟩ := h1
      exact ⟨.tuple #[V, .bool true], h2 _ rfl, ⟨_, rfl, by simp [VR, hV]⟩⟩
    | false =>
      refine ⟨_, hk, fun N μ w X I hrel hX hI => ?_⟩
      obtain ⟨R, h1, h2⟩ := pre N μ w X I hrel hX hI
      obtain ⟨V, rfl, hV⟩ := h1
      exact ⟨V, h2 _ rfl, hV⟩

theorem sound_lookup {t : TypeId} {x ix : Operand} {ok : Bool} (ho : o.op = .lookup t x ix ok) (h : evK tm x (fun v => evK tm ix fun i => lookupK P st t v i ok fun v => K (.val v) st) = true) : SoundX P G o tm st K := by
  obtain ⟨a, h1, ha⟩ := evK_true h
  clear h
  obtain ⟨b, h2, hb⟩ := evK_true h1
  clear h1
  obtain ⟨v, hk, hv⟩ := lookupK_true (G := G) h2
  refine Sound.same hk fun N μ w ρ _ hr hx => ?_
  obtain ⟨V, h3, h4⟩ := hv N μ w _ _ hr (ha μ ρ (hx x (by simp [ho, Op.operands]))) (hb μ ρ (hx ix (by simp [ho, Op.operands])))
  exact ⟨V, by simp [execOp, ho, h3], h4⟩

/-! ### Entries laid -/
theorem updateK_true {mt : TypeId} {m k v : AV} {K : St → Bool} (h : updateK P st mt m k v K = true) : ∃ st', K st' = true ∧ st'.next = st.next ∧ (Wf st → Wf st') ∧
    ∀ N μ w M X V, Rel G N μ st w → VR μ m M → VR μ k X → VR μ v V → ∃ w', (Instr.mapUpdate mt M X V).run P w = .ok () w' ∧ Post G N st μ w st' μ w' := by
  unfold updateK at h
  split at h
  case h_2 => cases h
  rename_i kt et id hu
  have hu := und_some P hu
  split at h
  case h_2 => cases h
  rename_i hkey
  have hku : ∃ D, P.underlying kt = some D := by
    unfold keyOk keyFit at hkey
    cases hq : und P kt with
    | none => simp [hq] at hkey
    | some D => exact ⟨D, und_some P hq⟩
  obtain ⟨D, hku⟩ := hku
  split at h
  case h_2 => cases h
  rename_i es clock hb
  obtain ⟨r, hk, hr⟩ := findK_true (G := G) h
  clear h
  cases r with
  | some q =>
    obtain ⟨i, u⟩ := q
    simp only at hk
    obtain ⟨e, he, hk⟩ := nthK_true hk
    split at hk
    case h_2 => cases hk
    rename_i hsame
    have hk := setNth_true hk
    rw [setBlkK_eq] at hk
    refine ⟨_, hk, rfl, fun hw => hw.setB hb _ (by intro b'' h; cases h; rfl), fun N μ w M X V hrel hM hX hV => ?_⟩
    obtain ⟨q, hm, rfl⟩ := hM
    obtain ⟨q', hm', hN, hlt, arr, hob, hE⟩ := hrel.blk id _ hb rfl
    rw [hm] at hm'; cases hm'
    obtain ⟨R, h1, h2⟩ := hr N μ w X arr.toList hrel hX hE
    obtain ⟨U, rfl, hU⟩ := h2
    obtain ⟨E, hE1, hE2, hE3, hE4⟩ := ER_get hE he
    have hE1' : arr[i]? = some E := by simpa using hE1
    obtain ⟨e1, e2⟩ := sameKey_VR hsame hE2 hX
    refine ⟨wput w q (.map (arr.modify i fun e => { e with key := X, val := V }) clock), ?_, Post.setB hrel hb rfl rfl hm _ rfl rfl _ ⟨_, rfl, ?_⟩⟩
    · have hg := run_getO (P := P) hob (by intros; simp)
      have hs := fun o' => run_setO (P := P) o' hob (by intros; simp)
      have hck := fun e => keyFit_run 20 hkey hX w e 10000 (by omega)
      simp [Instr.mapUpdate, run_underlying hu, hg, hck, run_findKey hku, h1, Instr.keyThatStays, hE1', e2, hs]
    · rw [Array.toList_modify]
      refine ER_set hE i _ _ (fun E' hE' => ?_)
      rw [hE1] at hE'; cases hE'
      exact ⟨by rw [← e1]; exact hE2, hV, hE4⟩
  | none =>
    simp only [natK_eq, Nat.succ_eq_add_one, appK_eq] at hk
    rw [setBlkK_eq] at hk
    refine ⟨_, hk, rfl, fun hw => hw.setB hb _ (by intro b'' h; cases h; rfl), fun N μ w M X V hrel hM hX hV => ?_⟩
    obtain ⟨q, hm, rfl⟩ := hM
    obtain ⟨q', hm', hN, hlt, arr, hob, hE⟩ := hrel.blk id _ hb rfl
    rw [hm] at hm'; cases hm'
    obtain ⟨R, h1, h2⟩ := hr N μ w X arr.toList hrel hX hE
    simp only [FR] at h2; subst h2
    refine ⟨wput w q (.map (arr.push { key := X, val := V, born := clock }) (clock + 1)), ?_, Post.setB hrel hb rfl rfl hm _ rfl rfl _ ⟨_, rfl, ?_⟩⟩
    · have hg := run_getO (P := P) hob (by intros; simp)
      have hs := fun o' => run_setO (P := P) o' hob (by intros; simp)
      have hck := fun e => keyFit_run 20 hkey hX w e 10000 (by omega)
      simp [Instr.mapUpdate, run_underlying hu, hg, hck, run_findKey hku, h1, hs]
    · rw [Array.toList_push]
      exact ER_append hE (ER_cons.2 ⟨_, _, rfl, ⟨hX, hV, rfl⟩, ER_nil.2 rfl⟩)

theorem sound_mapUpdate {t : TypeId} {m k x : Operand} (ho : o.op = .mapUpdate t m k x ∨ o.op = .insert t m k x) (h : evK tm m (fun m => evK tm k fun k => evK tm x fun v => updateK P st t m k v fun st => K (.val aundef) st) = true) : SoundX P G o tm st K := by
  obtain ⟨a, h1, ha⟩ := evK_true h
  clear h
  obtain ⟨b, h2, hb⟩ := evK_true h1
  clear h1
  obtain ⟨c, h3, hc⟩ := evK_true h2
  clear h2
  obtain ⟨st', hk, hn, hwf, hv⟩ := updateK_true (G := G) h3
  refine Sound.skip (by first | (rw [ho]; rfl) | (rcases ho with ho | ho <;> rw [ho] <;> rfl)) hk hn hwf fun N μ w ρ _ hr hx => ?_
  obtain ⟨w', h4, h5⟩ := hv N μ w _ _ _ hr (ha μ ρ (hx m (by rcases ho with ho | ho <;> simp [ho, Op.operands]))) (hb μ ρ (hx k (by rcases ho with ho | ho <;> simp [ho, Op.operands]))) (hc μ ρ (hx x (by rcases ho with ho | ho <;> simp [ho, Op.operands])))
  exact ⟨w', by rcases ho with ho | ho <;> simp [execOp, ho, h4], h5⟩

theorem sound_mapEntry {t : TypeId} {m k : Operand} (ho : o.op = .mapEntry t m k) (h : evK tm m (fun m => evK tm k fun k => mapEntryK P st t m k fun v st => K (.val v) st) = true) : SoundX P G o tm st K := by
  refine ⟨?_, .inr (.inr (by rw [ho]; rfl))⟩
  obtain ⟨a, h1, ha⟩ := evK_true h
  clear h
  obtain ⟨b, h2, hb⟩ := evK_true h1
  clear h1
  unfold mapEntryK at h2
  split at h2
  case h_2 => cases h2
  rename_i kt et id hu
  have hu := und_some P hu
  split at h2
  case h_2 => cases h2
  rename_i hkey
  have hku : ∃ D, P.underlying kt = some D := by
    unfold keyOk keyFit at hkey
    cases hq : und P kt with
    | none => simp [hq] at hkey
    | some D => exact ⟨D, und_some P hq⟩
  obtain ⟨D, hku⟩ := hku
  split at h2
  case h_2 => cases h2
  rename_i es clock hbl
  obtain ⟨r, hk, hr⟩ := findK_true (G := G) h2
  clear h2
  cases r with
  | some q =>
    obtain ⟨i, u⟩ := q
    simp only at hk
    obtain ⟨e, he, hk⟩ := nthK_true hk
    split at hk
    case h_2 => cases hk
    rename_i hsame
    refine ⟨_, st, hk, Nat.le_refl _, fun h => h, fun N μ w ρ hwf hfr hrel hx => ?_⟩
    obtain ⟨q, hm, hM⟩ := ha μ ρ (hx m (by simp [ho, Op.operands]))
    have hX := hb μ ρ (hx k (by simp [ho, Op.operands]))
    obtain ⟨q', hm', hN, hlt, arr, hob, hE⟩ := hrel.blk id _ hbl rfl
    rw [hm] at hm'; cases hm'
    obtain ⟨R, h1, h2⟩ := hr N μ w _ arr.toList hrel hX hE
    obtain ⟨U, rfl, hU⟩ := h2
    obtain ⟨E, hE1, hE2, hE3, hE4⟩ := ER_get hE he
    have hE1' : arr[i]? = some E := by simpa using hE1
    obtain ⟨e1, e2⟩ := sameKey_VR hsame hE2 hX
    have harr : arr.modify i (fun e => { e with key := ρ k }) = arr := by
      apply Array.ext_getElem?
      intro j
      rw [Array.getElem?_modify]
      by_cases hj : i = j
      · subst hj; rw [if_pos rfl, hE1']; simp [← e1]
      · rw [if_neg hj]
    refine ⟨μ, w, Post.refl hrel, .inl ⟨.tuple #[U, goInt E.born], ?_, ⟨_, rfl, by simp [VR, hU, goInt, hE4]⟩⟩⟩
    have hg := run_getO (P := P) hob (by intros; simp)
    have hs := fun o' => run_setO (P := P) o' hob (by intros; simp)
    have hck := fun e => keyFit_run 20 hkey hX w e 10000 (by omega)
    simp [execOp, ho, hM, Instr.mapEntry, run_underlying hu, hg, hck, run_findKey hku, h1, Instr.keyThatStays, hE1', e2, hs, harr, wput_same hob]
  | none =>
    simp only at hk
    split at hk
    case h_2 => cases hk
    rename_i z hz
    simp only [natK_eq, Nat.succ_eq_add_one, appK_eq] at hk
    rw [setBlkK_eq] at hk
    refine ⟨_, _, hk, Nat.le_refl _, fun hw => hw.setB hbl _ (by intro b'' h; cases h; rfl), fun N μ w ρ hwf hfr hrel hx => ?_⟩
    obtain ⟨q, hm, hM⟩ := ha μ ρ (hx m (by simp [ho, Op.operands]))
    have hX := hb μ ρ (hx k (by simp [ho, Op.operands]))
    obtain ⟨q', hm', hN, hlt, arr, hob, hE⟩ := hrel.blk id _ hbl rfl
    rw [hm] at hm'; cases hm'
    obtain ⟨R, h1, h2⟩ := hr N μ w _ arr.toList hrel hX hE
    simp only [FR] at h2; subst h2
    obtain ⟨Z, hZ, hZ'⟩ := zeroVal_run (P := P) hz μ w
    refine ⟨μ, wput w q (.map (arr.push { key := ρ k, val := Z, born := clock }) (clock + 1)), Post.setB hrel hbl rfl rfl hm _ rfl rfl _ ⟨_, rfl, ?_⟩, .inl ⟨.tuple #[Z, goInt clock], ?_, ⟨_, rfl, by simp [VR, hZ', goInt]⟩⟩⟩
    · rw [Array.toList_push]
      exact ER_append hE (ER_cons.2 ⟨_, _, rfl, ⟨hX, hZ', rfl⟩, ER_nil.2 rfl⟩)
    · have hg := run_getO (P := P) hob (by intros; simp)
      have hs := fun o' => run_setO (P := P) o' hob (by intros; simp)
      have hck := fun e => keyFit_run 20 hkey hX w e 10000 (by omega)
      simp [execOp, ho, hM, Instr.mapEntry, run_underlying hu, hg, hck, run_findKey hku, h1, hZ, hs]

theorem stampK_true {s : Nat} {K : Nat → Bool} : ∀ {es : List AEntry} {i : Nat}, stampK s es i K = true → ∃ j, K j = true ∧ i ≤ j ∧ (∃ e, es[j - i]? = some e ∧ e.born = s) ∧ ∀ k e, k < j - i → es[k]? = some e → e.born ≠ s
  | [], _, h => by simp [stampK] at h
  | e :: es, i, h => by
    simp only [stampK] at h
    split at h
    · rename_i hb
      exact ⟨i, h, Nat.le_refl _, ⟨e, by simp, of_beq hb⟩, fun k e hk => by omega⟩
    · rename_i hb
      simp only [natK_eq, Nat.succ_eq_add_one] at h
      obtain ⟨j, h1, h2, ⟨e', h3, h4⟩, h5⟩ := stampK_true h
      refine ⟨j, h1, by omega, ⟨e', ?_, h4⟩, fun k e'' hk he => ?_⟩
      · rw [show j - i = (j - (i + 1)) + 1 by omega]; simpa using h3
      · cases k with
        | zero => simp at he; subst he; exact of_beq_false hb
        | succ k => simp at he; exact h5 k e'' (by omega) he
end
end Go.Shd
