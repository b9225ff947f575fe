/- The shadow of each operation is sound: maps, calls, built-in functions. -/
import Derived.Test.YtpdhahkeghblmaaGreatDoorShd2
import Derived.Laws.Externs
import Derived.Lib.Bytealg
set_option linter.unusedSimpArgs false
set_option linter.unusedVariables false
/- Iterators; the built-in functions. -/
namespace Go.Shd
noncomputable section
variable {G : Globals} {P : Program} {o : Oper} {tm : T AV} {st : St} {K : ONext → St → Bool}

theorem findIdx_of {Es : List MapEntry} {μ : Mu} {es : List AEntry} (hE : ER μ es Es) {born j : Nat} {e : AEntry} (h1 : es[j]? = some e) (h2 : e.born = born) (h3 : ∀ k e, k < j → es[k]? = some e → e.born ≠ born) :
    Es.findIdx? (fun e => ((e.born : Int) == (born : Int))) = some j := by
  obtain ⟨E, hE1, _, _, hE4⟩ := ER_get hE h1
  rw [List.findIdx?_eq_some_iff_getElem]
  have hlen : j < Es.length := (List.getElem?_eq_some_iff.1 hE1).1
  refine ⟨hlen, ?_, fun k hk => ?_⟩
  · have := (List.getElem?_eq_some_iff.1 hE1).2
    rw [this, hE4, h2]; simp
  · have hk' : k < es.length := by rw [ER_len hE]; omega
    obtain ⟨E', hE1', _, _, hE4'⟩ := ER_get hE (List.getElem?_eq_getElem hk')
    have := (List.getElem?_eq_some_iff.1 hE1').2
    rw [this, hE4']
    have := h3 k _ hk (List.getElem?_eq_getElem hk')
    simp; omega

theorem sound_entryStore {t : TypeId} {m s x : Operand} (ho : o.op = .entryStore t m s x) (h : evK tm m (fun m => evK tm s fun s => evK tm x fun v => entryStoreK st m s v fun st => K (.val aundef) st) = true) : SoundX P G o tm st K := by
  obtain ⟨a, h1, ha⟩ := evK_true h
  clear h
  obtain ⟨b, h2, hb⟩ := evK_true h1
  clear h1
  obtain ⟨c, h3, hc⟩ := evK_true h2
  clear h2
  unfold entryStoreK at h3
  split at h3
  case h_2 => cases h3
  rename_i id k born
  split at h3
  case h_2 => cases h3
  rename_i es clock hbl
  obtain ⟨j, h4, _, ⟨e', he', hbn⟩, hfirst⟩ := stampK_true h3
  clear h3
  simp only [Nat.sub_zero] at he' hfirst
  obtain ⟨e, he, hk⟩ := nthK_true h4
  rw [he] at he'; cases he'
  have hk := setNth_true hk
  rw [setBlkK_eq] at hk
  refine Sound.skip (by first | (rw [ho]; rfl) | (rcases ho with ho | ho <;> rw [ho] <;> rfl)) hk rfl (fun hw => hw.setB hbl _ (by intro b'' h; cases h; rfl)) fun N μ w ρ _ hr hx => ?_
  obtain ⟨q, hm, hM⟩ := ha μ ρ (hx m (by simp [ho, Op.operands]))
  have hS := hb μ ρ (hx s (by simp [ho, Op.operands]))
  have hV := hc μ ρ (hx x (by simp [ho, Op.operands]))
  simp only [VR] at hS
  obtain ⟨q', hm', hN, hlt, arr, hob, hE⟩ := hr.blk id _ hbl rfl
  rw [hm] at hm'; cases hm'
  have hidx : arr.findIdx? (fun e => ((e.born : Int) == (born : Int))) = some j := by
    have := findIdx_of hE he hbn hfirst
    cases arr with
    | mk l => simpa using this
  refine ⟨wput w q (.map (arr.modify j fun e => { e with val := ρ x }) clock), ?_, Post.setB hr hbl rfl rfl hm _ rfl rfl _ ⟨_, rfl, ?_⟩⟩
  · have hg := run_getO (P := P) hob (by intros; simp)
    have hs := fun o' => run_setO (P := P) o' hob (by intros; simp)
    have hidx' : arr.findIdx? (fun e => ((e.born : Int) == Int.ofNat born)) = some j := hidx
    simp [execOp, ho, hM, hS, Instr.entryStore, hg, asInt, asIntOf, hidx, hs]
  · rw [Array.toList_modify]
    refine ER_set hE j _ _ (fun E' hE' => ?_)
    obtain ⟨E, hE1, hE2, hE3, hE4⟩ := ER_get hE he
    rw [hE1] at hE'; cases hE'
    exact ⟨hE2, hV, hE4⟩

theorem sound_range {t : TypeId} {x : Operand} (ho : o.op = .range t x) (h : evK tm x (fun v => match und P t, v with
    | some .string, .str s => newK st (.sit s 0) fun id st => K (.val (.ptr id 0)) st
    | some (.map _ _), .lit (.map none) => newK st (.mit none 0 [] 0) fun id st => K (.val (.ptr id 0)) st
    | some (.map _ _), .mp m => match st.heap.get (key m) with
      | some (.map _ clock) => newK st (.mit (some m) clock [] clock) fun id st => K (.val (.ptr id 0)) st
      | _ => false
    | _, _ => false) = true) : SoundX P G o tm st K := by
  obtain ⟨a, h1, ha⟩ := evK_true h
  clear h
  split at h1
  · rename_i s hu
    have hu := und_some P hu
    rw [newK_push] at h1
    refine Sound.make h1 rfl (by intro g hg; simp [Blk.grp?] at hg) fun N μ w ρ _ hr hx hfr => ?_
    obtain ⟨S, hS, hS'⟩ := ha μ ρ (hx x (by simp [ho, Op.operands]))
    exact ⟨.pointer (some ⟨w.heap.size, 0, none⟩), .stringIter S 0, by simp [execOp, ho, Instr.range, run_underlying hu, hS], ⟨S, rfl, hS'⟩, ⟨w.heap.size, by simp [Mu.new], rfl⟩⟩
  · rename_i hu
    have hu := und_some P hu
    rw [newK_push] at h1
    refine Sound.make h1 rfl (by intro g hg; simp [Blk.grp?] at hg) fun N μ w ρ _ hr hx hfr => ?_
    have hS := ha μ ρ (hx x (by simp [ho, Op.operands]))
    simp only [VR] at hS
    exact ⟨.pointer (some ⟨w.heap.size, 0, none⟩), .mapIter none 0 #[] 0, by simp [execOp, ho, Instr.range, run_underlying hu, hS], ⟨none, rfl, rfl⟩, ⟨w.heap.size, by simp [Mu.new], rfl⟩⟩
  · rename_i m hu
    have hu := und_some P hu
    split at h1
    · rename_i es clock hbl
      rw [newK_push] at h1
      refine Sound.make h1 rfl (by intro g hg; simp [Blk.grp?] at hg) fun N μ w ρ _ hr hx hfr => ?_
      obtain ⟨q, hm, hS⟩ := ha μ ρ (hx x (by simp [ho, Op.operands]))
      obtain ⟨q', hm', _, _, arr, hob, hE⟩ := hr.blk m _ hbl rfl
      rw [hm] at hm'; cases hm'
      have hg := run_getO (P := P) hob (by intros; simp)
      exact ⟨.pointer (some ⟨w.heap.size, 0, none⟩), .mapIter (some q) clock #[] clock, by simp [execOp, ho, Instr.range, run_underlying hu, hS, hg], ⟨some q, rfl, q, (Mu.le_new hfr _ _ hm).1, rfl⟩, ⟨w.heap.size, by simp [Mu.new], rfl⟩⟩
    · cases h1
  · cases h1

/-- What of a list of operands' values, its state turned. -/
def CallS (P : Program) (G : Globals) (st : St) (K : ONext → St → Bool) (args : List AV) (f : Array Value → Sem Next) : Prop :=
  ∃ nx st', K nx st' = true ∧ st.next ≤ st'.next ∧ (Wf st → Wf st') ∧
    ∀ N μ w (A : Array Value), Wf st → Fresh μ st.next st'.next → Rel G N μ st w → VRs μ args A.toList →
      ∃ μ' w', Post G N st μ w st' μ' w' ∧ OutR μ' st' w' nx ((f A).run P w)

/-- Quiet, all the same. -/
def CallQ (P : Program) (G : Globals) (st : St) (K : ONext → St → Bool) (args : List AV) (f : Array Value → Sem Next) : Prop :=
  ∃ v, K (.val v) st = true ∧ ∀ N μ w (A : Array Value), Rel G N μ st w → VRs μ args A.toList → ∃ V, (f A).run P w = .ok (.value V) w ∧ VR μ v V

theorem CallQ.sound {args : List AV} {f : Array Value → Sem Next} (h : CallQ P G st K args f) : CallS P G st K args f := by
  obtain ⟨v, hk, h⟩ := h
  exact ⟨_, st, hk, Nat.le_refl _, fun h => h, fun N μ w A _ _ hr hA => by
    obtain ⟨V, h1, h2⟩ := h N μ w A hr hA
    exact ⟨μ, w, Post.refl hr, .inl ⟨V, h1, h2⟩⟩⟩

theorem CallQ.same {args : List AV} {f : Array Value → Sem Next} {v : AV} (hk : K (.val v) st = true)
    (h : ∀ N μ w (A : Array Value), Rel G N μ st w → VRs μ args A.toList → ∃ V, (f A).run P w = .ok (.value V) w ∧ VR μ v V) : CallQ P G st K args f :=
  ⟨v, hk, h⟩

theorem CallS.same {args : List AV} {f : Array Value → Sem Next} {v : AV} (hk : K (.val v) st = true)
    (h : ∀ N μ w (A : Array Value), Rel G N μ st w → VRs μ args A.toList → ∃ V, (f A).run P w = .ok (.value V) w ∧ VR μ v V) : CallS P G st K args f :=
  ⟨_, st, hk, Nat.le_refl _, fun h => h, fun N μ w A _ _ hr hA => by
    obtain ⟨V, h1, h2⟩ := h N μ w A hr hA
    exact ⟨μ, w, Post.refl hr, .inl ⟨V, h1, h2⟩⟩⟩

theorem VRs1 {μ : Mu} {x : AV} {A : Array Value} (h : VRs μ [x] A.toList) : ∃ X, A = #[X] ∧ VR μ x X := by
  obtain ⟨X, e, h1⟩ := h.one
  exact ⟨X, by cases A; simp at e; simp [e], h1⟩
theorem VRs2 {μ : Mu} {x y : AV} {A : Array Value} (h : VRs μ [x, y] A.toList) : ∃ X Y, A = #[X, Y] ∧ VR μ x X ∧ VR μ y Y := by
  obtain ⟨X, m, e, h1, h2⟩ := (VRs_cons _ _ _).1 h
  obtain ⟨Y, e2, h3⟩ := h2.one
  exact ⟨X, Y, by cases A; simp [e2] at e; simp [e], h1, h3⟩

theorem minmaxK_true {mx : Bool} : ∀ {l : List AV} {x : AV} {K : AV → Bool}, minmaxK mx x l K = true → ∃ v, K v = true ∧ ∀ μ w X (L : List Value), VR μ x X → VRs μ l L →
    ∃ V, (L.foldlM (if mx then Builtin.max2 else Builtin.min2) X).run P w = .ok V w ∧ VR μ v V
  | [], x, K, h => ⟨x, by simpa [minmaxK] using h, fun μ w X L hX hL => by simp at hL; subst hL; exact ⟨X, by simp, hX⟩⟩
  | y :: l, x, K, h => by
    unfold minmaxK at h
    split at h
    · rename_i heq; cases heq
    · rename_i k a k' b l' heq
      cases heq
      split at h
      · rename_i hk
        have hk := of_decide_eq_true hk
        subst hk
        split at h
        · rename_i hlt
          rw [intLt_eq] at hlt
          have hlt := of_decide_eq_true hlt
          obtain ⟨v, h1, h2⟩ := minmaxK_true h
          refine ⟨v, h1, fun μ w X L hX hL => ?_⟩
          obtain ⟨Y, L', rfl, hY, hL'⟩ := (VRs_cons _ _ _).1 hL
          simp only [VR] at hX hY; subst hX hY
          obtain ⟨V, h3, h4⟩ := h2 μ w (.int k b) L' (by simp [VR]) hL'
          exact ⟨V, by simpa [Builtin.max2, hlt] using h3, h4⟩
        · rename_i hlt
          rw [intLt_eq] at hlt
          have hlt : ¬ a < b := of_decide_eq_false hlt
          obtain ⟨v, h1, h2⟩ := minmaxK_true h
          refine ⟨v, h1, fun μ w X L hX hL => ?_⟩
          obtain ⟨Y, L', rfl, hY, hL'⟩ := (VRs_cons _ _ _).1 hL
          simp only [VR] at hX hY; subst hX hY
          obtain ⟨V, h3, h4⟩ := h2 μ w (.int k a) L' (by simp [VR]) hL'
          exact ⟨V, by simpa [Builtin.max2, hlt] using h3, h4⟩
      · rename_i hk
        have hk := of_decide_eq_true hk
        subst hk
        split at h
        · rename_i hlt
          rw [intLt_eq] at hlt
          have hlt := of_decide_eq_true hlt
          obtain ⟨v, h1, h2⟩ := minmaxK_true h
          refine ⟨v, h1, fun μ w X L hX hL => ?_⟩
          obtain ⟨Y, L', rfl, hY, hL'⟩ := (VRs_cons _ _ _).1 hL
          simp only [VR] at hX hY; subst hX hY
          obtain ⟨V, h3, h4⟩ := h2 μ w (.int k b) L' (by simp [VR]) hL'
          exact ⟨V, by simpa [Builtin.min2, hlt] using h3, h4⟩
        · rename_i hlt
          rw [intLt_eq] at hlt
          have hlt : ¬ b < a := of_decide_eq_false hlt
          obtain ⟨v, h1, h2⟩ := minmaxK_true h
          refine ⟨v, h1, fun μ w X L hX hL => ?_⟩
          obtain ⟨Y, L', rfl, hY, hL'⟩ := (VRs_cons _ _ _).1 hL
          simp only [VR] at hX hY; subst hX hY
          obtain ⟨V, h3, h4⟩ := h2 μ w (.int k a) L' (by simp [VR]) hL'
          exact ⟨V, by simpa [Builtin.min2, hlt] using h3, h4⟩
      · cases h
    · cases h

section builtins
variable {at' : Array TypeId} {args : List AV} {type : TypeId} {cs : Array Bool}

theorem builtin_len (h : builtinK P G st .len at' args K = true) : CallQ P G st K args (builtin .len at' type cs) := by
  unfold builtinK at h
  simp only at h
  split at h
  case h_2 => cases h
  rename_i t x ht
  split at h
  · rename_i n e hu
    have hu := und_some P hu
    refine CallQ.same h fun N μ w A hr hA => ?_
    obtain ⟨X, rfl, hX⟩ := VRs1 hA
    exact ⟨_, by simp [builtin, Builtin.len_, ht, run_underlying hu, goInt]; rfl, by simp [VR]⟩
  · rename_i hu
    have hu := und_some P hu
    split at h
    case h_2 => cases h
    rename_i l
    rw [lenK_eq] at h
    refine CallQ.same h fun N μ w A hr hA => ?_
    obtain ⟨X, rfl, hX⟩ := VRs1 hA
    obtain ⟨s, rfl, rfl⟩ := hX
    exact ⟨.int .i64 s.size, by simp [builtin, Builtin.len_, ht, run_underlying hu, goInt], by simp [VR, bytesOf_length]⟩
  · rename_i e hu
    have hu := und_some P hu
    split at h
    · refine CallQ.same h fun N μ w A hr hA => ?_
      obtain ⟨X, rfl, hX⟩ := VRs1 hA
      simp only [VR] at hX; subst hX
      exact ⟨_, by simp [builtin, Builtin.len_, ht, run_underlying hu, goInt]; rfl, by simp [VR]⟩
    · refine CallQ.same h fun N μ w A hr hA => ?_
      obtain ⟨X, rfl, hX⟩ := VRs1 hA
      obtain ⟨r, c, _, _, rfl⟩ := hX
      exact ⟨_, by simp [builtin, Builtin.len_, ht, run_underlying hu, goInt]; rfl, by simp [VR]⟩
    · refine CallQ.same h fun N μ w A hr hA => ?_
      obtain ⟨X, rfl, hX⟩ := VRs1 hA
      obtain ⟨a, c, rfl⟩ := hX
      exact ⟨_, by simp [builtin, Builtin.len_, ht, run_underlying hu, goInt]; rfl, by simp [VR]⟩
    · cases h
  · rename_i k e hu
    have hu := und_some P hu
    split at h
    · refine CallQ.same h fun N μ w A hr hA => ?_
      obtain ⟨X, rfl, hX⟩ := VRs1 hA
      simp only [VR] at hX; subst hX
      exact ⟨_, by simp [builtin, Builtin.len_, ht, run_underlying hu, goInt]; rfl, by simp [VR]⟩
    · rename_i id
      split at h
      case h_2 => cases h
      rename_i es clock hbl
      rw [lenK_eq] at h
      refine CallQ.same h fun N μ w A hr hA => ?_
      obtain ⟨X, rfl, hX⟩ := VRs1 hA
      obtain ⟨q, hm, rfl⟩ := hX
      obtain ⟨q', hm', _, _, arr, hob, hE⟩ := hr.blk id _ hbl rfl
      rw [hm] at hm'; cases hm'
      have hg := run_getO (P := P) hob (by intros; simp)
      exact ⟨.int .i64 arr.size, by simp [builtin, Builtin.len_, ht, run_underlying hu, goInt, hg], by simp [VR, ER_len hE]⟩
    · cases h
  · cases h

theorem builtin_cap (h : builtinK P G st .cap at' args K = true) : CallQ P G st K args (builtin .cap at' type cs) := by
  unfold builtinK at h
  simp only at h
  split at h
  case h_2 => cases h
  rename_i t x ht
  split at h
  · rename_i e hu
    have hu := und_some P hu
    refine CallQ.same h fun N μ w A hr hA => ?_
    obtain ⟨X, rfl, hX⟩ := VRs1 hA
    simp only [VR] at hX; subst hX
    exact ⟨_, by simp [builtin, Builtin.cap_, ht, run_underlying hu, goInt]; rfl, by simp [VR]⟩
  · rename_i e _ _ _ lb hu
    have hu := und_some P hu
    refine CallQ.same h fun N μ w A hr hA => ?_
    obtain ⟨X, rfl, hX⟩ := VRs1 hA
    obtain ⟨r, c, _, hc, rfl⟩ := hX
    simp only [exOk] at hc; subst hc
    exact ⟨_, by simp [builtin, Builtin.cap_, ht, run_underlying hu, goInt]; rfl, by simp [VR]⟩
  · cases h

theorem builtin_append (h : builtinK P G st .append at' args K = true) : CallS P G st K args (builtin .append at' type cs) := by
  unfold builtinK at h
  simp only at h
  split at h
  case h_2 => cases h
  rename_i t u s x ht
  have ht : at' = #[t, u] := by cases at'; simp at ht; simp [ht]
  subst ht
  have main : srcOk P u ∧ appendK P G st t s x (fun v st => K (.val v) st) = true := by
    split at h
    · rename_i hu; exact ⟨.inr (und_some P hu), h⟩
    · rename_i e hu; exact ⟨.inl ⟨e, und_some P hu⟩, h⟩
    · cases h
  clear h
  obtain ⟨hsrc, h⟩ := main
  obtain ⟨v, st', hk, hn, hwf, hv⟩ := appendK_true h
  refine ⟨_, st', hk, hn, hwf, fun N μ w A hw hf hr hA => ?_⟩
  obtain ⟨S, X, rfl, hS, hX⟩ := VRs2 hA
  obtain ⟨μ', w', V, h1, h2, h3⟩ := hv N μ w u type S X hw hf hr hsrc hS hX
  exact ⟨μ', w', h2, .inl ⟨V, by simp [builtin, h1], h3⟩⟩

theorem builtin_max (h : builtinK P G st .max at' args K = true) : CallQ P G st K args (builtin .max at' type cs) := by
  unfold builtinK at h
  simp only at h
  split at h
  case h_2 => cases h
  obtain ⟨v, hk, hv⟩ := minmaxK_true (P := P) h
  refine CallQ.same hk fun N μ w A hr hA => ?_
  obtain ⟨X, L, e, hX, hL⟩ := (VRs_cons _ _ _).1 hA
  obtain ⟨V, h1, h2⟩ := hv μ w X L hX hL
  simp only [if_true] at h1
  exact ⟨V, by simp [builtin, Builtin.max_, e, h1], h2⟩

theorem builtin_min (h : builtinK P G st .min at' args K = true) : CallQ P G st K args (builtin .min at' type cs) := by
  unfold builtinK at h
  simp only at h
  split at h
  case h_2 => cases h
  obtain ⟨v, hk, hv⟩ := minmaxK_true (P := P) h
  refine CallQ.same hk fun N μ w A hr hA => ?_
  obtain ⟨X, L, e, hX, hL⟩ := (VRs_cons _ _ _).1 hA
  obtain ⟨V, h1, h2⟩ := hv μ w X L hX hL
  simp only [Bool.false_eq_true, if_false] at h1
  exact ⟨V, by simp [builtin, Builtin.min_, e, h1], h2⟩
end builtins
end
end Go.Shd
/- Built-in functions, calls. -/
namespace Go.Shd
noncomputable section
variable {G : Globals} {P : Program} {o : Oper} {tm : T AV} {st : St} {K : ONext → St → Bool}

section builtins
variable {at' : Array TypeId} {args : List AV} {type : TypeId} {cs : Array Bool}

theorem builtin_copy (h : builtinK P G st .copy at' args K = true) : CallS P G st K args (builtin .copy at' type cs) := by
  unfold builtinK at h
  simp only at h
  split at h
  · rename_i t id off len lb ex x ht
    split at h
    case h_2 => cases h
    rename_i e hu
    have hu := und_some P hu
    split at h
    case h_2 => cases h
    rename_i size hs
    obtain ⟨m, h1, hm⟩ := lenOfK_true (P := P) h
    clear h
    rw [natK_eq] at h1
    obtain ⟨l, h2, _, hl⟩ := firstK_true (P := P) h1
    clear h1
    cases l with
    | nil =>
      refine CallS.same h2 fun N μ w A hr hA => ?_
      obtain ⟨D, X, rfl, hD, hX⟩ := VRs2 hA
      obtain ⟨r, c, hb, _, rfl⟩ := hD
      obtain ⟨B, e1, e2, _⟩ := hl N μ w X hr hX
      have hB : B = #[] := by cases B; simp at e2; simp [e2]
      subst hB
      refine ⟨goInt (Nat.min m len), ?_, by simp [VR, goInt]⟩
      simp [builtin, Builtin.copy_, ht, run_underlying hu, hm μ X w hX, sizeOf_run hs, e1, storeCells]
    | cons y ys =>
      simp only at h2
      split at h2
      case h_2 => cases h2
      rename_i hone
      obtain ⟨st', hk, hn, hwf, hwr⟩ := writeK_true (G := G) h2
      refine ⟨_, st', hk, by omega, hwf, fun N μ w A hw hf hr hA => ?_⟩
      obtain ⟨D, X, rfl, hD, hX⟩ := VRs2 hA
      obtain ⟨r, c, hb, _, rfl⟩ := hD
      obtain ⟨B, e1, e2, _⟩ := hl N μ w X hr hX
      obtain ⟨arr, el, fz, hob, hle, hfz, hp⟩ := hwr N μ w r B.toList hw hr hb e2
      refine ⟨μ, _, hp, .inl ⟨goInt (Nat.min m len), ?_, by simp [VR, goInt]⟩⟩
      have hst := run_storeCells (P := P) (off := off) B.toList 0 w arr hob (by simpa using hle) (by simpa using hfz) (allOne_VR e2 hone)
      simp only [Nat.add_zero] at hst
      simp [builtin, Builtin.copy_, ht, run_underlying hu, hm μ X w hX, sizeOf_run hs, e1, hst]
  · rename_i t x ht
    split at h
    case h_2 => cases h
    rename_i e hu
    have hu := und_some P hu
    split at h
    case h_2 => cases h
    rename_i size hs
    obtain ⟨m, h1, hm⟩ := lenOfK_true (P := P) h
    refine CallS.same h1 fun N μ w A hr hA => ?_
    obtain ⟨D, X, rfl, hD, hX⟩ := VRs2 hA
    simp only [VR] at hD; subst hD
    have hl := hm μ X w hX
    have hfc : ∃ B, (Builtin.firstCells size 0 X).run P w = .ok B w := by
      cases X <;> first
        | (rename_i b n c; cases b with
            | none => exact ⟨#[], rfl⟩
            | some a => exact ⟨#[], by show (loadCells a (0 * size)).run P w = _; rw [Nat.zero_mul]; rfl⟩)
        | exact ⟨_, rfl⟩
        | (simp [Builtin.lenOf] at hl; done)
    obtain ⟨B, hB⟩ := hfc
    refine ⟨goInt 0, ?_, by simp [VR, goInt]⟩
    simp [builtin, Builtin.copy_, ht, run_underlying hu, hl, sizeOf_run hs, hB]
  · cases h

theorem builtin_recover (h : builtinK P G st .recover at' args K = true) : CallS P G st K args (builtin .recover at' type cs) := by
  unfold builtinK at h
  exact ⟨_, st, h, Nat.le_refl _, fun h => h, fun N μ w A _ _ hr hA => ⟨μ, w, Post.refl hr, rfl⟩⟩

theorem builtin_panic (h : builtinK P G st .panic at' args K = true) : CallS P G st K args (builtin .panic at' type cs) := by
  unfold builtinK at h
  simp only at h
  split at h
  case h_2 => cases h
  rename_i t v
  refine ⟨_, st, h, Nat.le_refl _, fun h => h, fun N μ w A _ _ hr hA => ?_⟩
  obtain ⟨X, rfl, hX⟩ := VRs1 hA
  obtain ⟨W, rfl, hW⟩ := hX
  exact ⟨μ, w, Post.refl hr, .iface t W, by simp [builtin, Instr.panic, goPanic], ⟨W, rfl, hW⟩⟩

theorem builtinK_true {b : Builtin} (h : builtinK P G st b at' args K = true) : CallS P G st K args (builtin b at' type cs) := by
  cases b
  case len => exact (builtin_len h).sound
  case cap => exact (builtin_cap h).sound
  case append => exact builtin_append h
  case max => exact (builtin_max h).sound
  case min => exact (builtin_min h).sound
  case copy => exact builtin_copy h
  case recover => exact builtin_recover h
  case panic => exact builtin_panic h
  all_goals (simp [builtinK] at h)
end builtins

/-! ### Temporaries -/
theorem TR.set {μ : Mu} {tm : T AV} {sz : Nat} {arr : Array Value} (h : TR μ tm sz arr) {d : Nat} (hd : d < sz) {v : AV} {V : Value} (hv : VR μ v V) : TR μ (T.set (some v) (key d) tm) sz (arr.setIfInBounds d V) := by
  refine ⟨by rw [Array.size_setIfInBounds]; exact h.1, fun i => ?_⟩
  rw [T.get_set]
  by_cases e : i = d
  · subst e
    have : i < arr.size := by rw [h.1]; exact hd
    simp [Array.getD, this, hv]
  · have := h.2 i
    simp only [e, if_false]
    have e2 : (arr.setIfInBounds d V).getD i undef = arr.getD i undef := by
      simp only [Array.getD_eq_getD_getElem?, Array.getElem?_setIfInBounds, if_neg (Ne.symm e)]
    rw [e2]; exact this

theorem putAll_true {sz : Nat} {K : T AV → Bool} : ∀ {ps : List Tmp} {vs : List AV} {tm : T AV}, putAll sz ps vs tm K = true → ps.length = vs.length ∧ ∃ tm', K tm' = true ∧
    ∀ μ arr (Vs : List Value), TR μ tm sz arr → VRs μ vs Vs → TR μ tm' sz ((ps.zip Vs).foldl (fun tmps (t, a) => tmps.setIfInBounds t a) arr)
  | [], [], tm, h => ⟨rfl, tm, by simpa [putAll] using h, fun μ arr Vs ht hV => by simpa using ht⟩
  | [], _ :: _, _, h => by simp [putAll] at h
  | _ :: _, [], _, h => by simp [putAll] at h
  | p :: ps, v :: vs, tm, h => by
    simp only [putAll] at h
    split at h
    case h_2 => cases h
    rename_i hlt
    rw [T.setK_eq] at h
    obtain ⟨e, tm', h1, h2⟩ := putAll_true h
    refine ⟨by simp [e], tm', h1, fun μ arr Vs ht hV => ?_⟩
    obtain ⟨V, Vs', rfl, hv, hvs⟩ := (VRs_cons _ _ _).1 hV
    simp only [List.zip_cons_cons, List.foldl_cons]
    exact h2 μ _ Vs' (ht.set (of_blt hlt) hv) hvs

/-! ### Functions without a body -/
theorem countB_eq (c : UInt8) : ∀ (l : List UInt8) (n : Nat) {K : Nat → Bool}, countB c.toNat (l.map (·.toNat)) n K = K (n + l.count c)
  | [], n, K => rfl
  | b :: l, n, K => by
    simp only [List.map_cons, countB]
    split
    · rename_i h
      have : b = c := UInt8.toNat_inj.1 (of_beq h)
      subst this
      simp only [natK_eq, Nat.succ_eq_add_one, List.count_cons_self]
      rw [countB_eq]; congr 1; omega
    · rename_i h
      have : b ≠ c := fun e => by subst e; exact absurd rfl (of_beq_false h)
      rw [countB_eq, List.count_cons_of_ne this]

theorem indexB_eq (c : UInt8) : ∀ (l : List UInt8) (n : Nat) {K : Option Nat → Bool}, indexB c.toNat (l.map (·.toNat)) n K = K (if Lib.indexByte l c = -1 then none else some (n + (Lib.indexByte l c).toNat))
  | [], n, K => rfl
  | b :: l, n, K => by
    simp only [List.map_cons, indexB]
    split
    · rename_i h
      have : b = c := UInt8.toNat_inj.1 (of_beq h)
      subst this
      simp [Lib.indexByte]
    · rename_i h
      have : b ≠ c := fun e => by subst e; exact absurd rfl (of_beq_false h)
      have hb : (b == c) = false := by simp [this]
      have hge := Lib.indexByte_ge l c
      simp only [natK_eq, Nat.succ_eq_add_one]
      rw [indexB_eq]
      simp only [Lib.indexByte, hb, Bool.false_eq_true, if_false, beq_iff_eq]
      by_cases h1 : Lib.indexByte l c = -1
      · simp [h1]
      · have h2 : ¬ (Lib.indexByte l c + 1 = -1) := by omega
        simp only [h1, h2, if_false]
        congr 2; omega

theorem u8_of {c : Nat} (h : c < 256) : ∃ u : UInt8, u = (Int.ofNat c).toNat.toUInt8 ∧ u.toNat = c := ⟨_, rfl, by simp; omega⟩

theorem externK_true {fn : Func} {g : FuncId} {args : List AV} (hf : P.funcs[g]? = some fn) (hb : fn.body = none) (h : externK st fn args K = true) : CallS P G st K args (callFunc g) := by
  unfold externK at h
  have hx : extOf fn ≠ .no := by intro e; rw [e] at h; simp at h
  have main : ∃ e, Extern.find fn = some e ∧ (fn.name == "runtime.NumGoroutine") = false ∧ Extern.findNext fn = none ∧ ((extOf fn = .count ∧ e = Extern.BytealgCount.count) ∨ (extOf fn = .indexByte ∧ e = Extern.BytealgIndexByte.indexByte) ∨ (extOf fn = .clone ∧ e = Extern.MapsClone.clone) ∨ (extOf fn = .same ∧ e = Extern.AbiNoEscape.same)) := by
    unfold extOf at hx ⊢
    split at hx
    case h_2 => exact absurd rfl hx
    rename_i hn
    have hn' : Extern.findNext fn = none := by simpa using hn
    split at hx
    · rename_i e
      have e := eq_of_beq e
      refine ⟨_, ?_, by rw [e]; decide, hn', .inl ⟨by simp [hn, e], rfl⟩⟩
      unfold Extern.find; rw [e]; rfl
    · rename_i e1
      split at hx
      · rename_i e
        have e := eq_of_beq e
        refine ⟨_, ?_, by rw [e]; decide, hn', .inr (.inl ⟨by simp [hn, e], rfl⟩)⟩
        unfold Extern.find; rw [e]; rfl
      · rename_i e2
        split at hx
        · rename_i e
          have e := eq_of_beq e
          refine ⟨_, ?_, by rw [e]; decide, hn', .inr (.inr (.inl ⟨by simp [hn, e], rfl⟩))⟩
          unfold Extern.find; rw [e]; rfl
        · rename_i e3
          split at hx
          · rename_i e
            have e := eq_of_beq e
            refine ⟨_, ?_, by rw [e]; decide, hn', .inr (.inr (.inr ⟨by simp [hn, e], rfl⟩))⟩
            unfold Extern.find; rw [e]; rfl
          · exact absurd rfl hx
  obtain ⟨e, he, hname, hn, hcase⟩ := main
  have hrun := fun A w => run_callFunc_extern (P := P) hf hname (by simp [hb]) hn he A w
  split at h
  · rename_i l c hext
    rcases hcase with ⟨h1, rfl⟩ | ⟨h1, rfl⟩ | ⟨h1, rfl⟩ | ⟨h1, rfl⟩ <;> (try (rw [hext] at h1; cases h1))
    split at h
    case h_2 => cases h
    rename_i hc
    obtain ⟨u, hu, huc⟩ := u8_of (of_blt hc)
    refine ⟨.val (.int .i64 (Int.ofNat (l.countP fun b => Nat.beq b c))), st, ?_, Nat.le_refl _, fun h => h, fun N μ w A _ _ hr hA => ?_⟩
    · have : ∀ (l : List Nat) (n : Nat) (K : Nat → Bool), countB c l n K = K (n + l.countP fun b => Nat.beq b c) := by
        intro l
        induction l with
        | nil => intro n K; rfl
        | cons b l ih =>
          intro n K
          simp only [countB, List.countP_cons]
          cases hb : Nat.beq b c with
          | true => simp only [natK_eq, Nat.succ_eq_add_one, if_true]; rw [ih]; congr 1; omega
          | false => simp only [Bool.false_eq_true, if_false]; rw [ih]; congr 1
      rw [this] at h; simpa using h
    · obtain ⟨X, Y, rfl, hX, hY⟩ := VRs2 hA
      obtain ⟨s, rfl, rfl⟩ := hX
      simp only [VR] at hY; subst hY
      refine ⟨μ, w, Post.refl hr, .inl ⟨.int .i64 (Lib.countByte s.data.toList u), ?_, ?_⟩⟩
      · rw [hrun, Lib.run_countString, hu]; rfl
      · simp only [VR, Value.int.injEq, true_and]
        unfold Lib.countByte bytesOf
        rw [List.countP_map, List.count_eq_countP]
        have : (fun b : UInt8 => b == u) = ((fun b => Nat.beq b c) ∘ fun x : UInt8 => x.toNat) := by
          funext b
          simp only [Function.comp_def]
          cases hb : Nat.beq b.toNat c with
          | true => have := of_beq hb; rw [← huc] at this; simp [UInt8.toNat_inj.1 this]
          | false =>
            have := of_beq_false hb
            have : b ≠ u := fun e => by subst e; exact this huc
            simp [this]
        rw [this]; rfl
  · rename_i l c hext
    rcases hcase with ⟨h1, rfl⟩ | ⟨h1, rfl⟩ | ⟨h1, rfl⟩ | ⟨h1, rfl⟩ <;> (try (rw [hext] at h1; cases h1))
    split at h
    case h_2 => cases h
    rename_i hc
    obtain ⟨u, hu, huc⟩ := u8_of (of_blt hc)
    have hcase : ∀ (l : List Nat) (n : Nat) (K : Option Nat → Bool), indexB c l n K = true → (∃ j : Nat, l[j]? = some c ∧ (∀ k : Nat, k < j → l[k]? ≠ some c) ∧ K (some (n + j)) = true) ∨ ((∀ k : Nat, l[k]? ≠ some c) ∧ K none = true) := by
      intro l
      induction l with
      | nil => intro n K h; exact .inr ⟨by simp, h⟩
      | cons b l ih =>
        intro n K h'
        simp only [indexB] at h'
        clear h
        have h := h'
        clear h'
        split at h
        · rename_i hb
          have := of_beq hb; subst this
          exact .inl ⟨0, by simp, fun k hk => by omega, h⟩
        · rename_i hb
          have hb := of_beq_false hb
          simp only [natK_eq, Nat.succ_eq_add_one] at h
          rcases ih _ _ h with ⟨j, h1, h2, h3⟩ | ⟨h1, h2⟩
          · refine .inl ⟨j + 1, by simpa using h1, fun k hk => ?_, by rw [show n + (j + 1) = n + 1 + j by omega]; exact h3⟩
            cases k with
            | zero => simpa using hb
            | succ k => simpa using h2 k (by omega)
          · refine .inr ⟨fun k => ?_, h2⟩
            cases k with
            | zero => simpa using hb
            | succ k => simpa using h1 k
    have hidx : ∀ (l : List UInt8), (∀ j : Nat, (l.map (·.toNat))[j]? = some c → (∀ k : Nat, k < j → (l.map (·.toNat))[k]? ≠ some c) → Lib.indexByte l u = j) ∧ ((∀ k : Nat, (l.map (·.toNat))[k]? ≠ some c) → Lib.indexByte l u = -1) := by
      intro l
      induction l with
      | nil => exact ⟨fun j h => by simp at h, fun _ => rfl⟩
      | cons b l ih =>
        constructor
        · intro j h1 h2
          cases j with
          | zero =>
            simp at h1
            have : b = u := UInt8.toNat_inj.1 (by rw [h1, huc])
            subst this; simp [Lib.indexByte]
          | succ j =>
            have hb : b ≠ u := fun e => by subst e; exact h2 0 (by omega) (by simp [huc])
            have := ih.1 j (by simpa using h1) (fun k hk => by have := h2 (k + 1) (by omega); simpa using this)
            simp [Lib.indexByte, hb, this]
        · intro h1
          have hb : b ≠ u := fun e => by subst e; exact h1 0 (by simp [huc])
          have := ih.2 (fun k => by have := h1 (k + 1); simpa using this)
          simp [Lib.indexByte, hb, this]
    rcases hcase l 0 _ h with ⟨j, h1, h2, h3⟩ | ⟨h1, h3⟩
    · simp only [Nat.zero_add] at h3
      refine ⟨_, st, h3, Nat.le_refl _, fun h => h, fun N μ w A _ _ hr hA => ?_⟩
      obtain ⟨X, Y, rfl, hX, hY⟩ := VRs2 hA
      obtain ⟨s, rfl, rfl⟩ := hX
      simp only [VR] at hY; subst hY
      refine ⟨μ, w, Post.refl hr, .inl ⟨.int .i64 (Lib.indexByte s.data.toList u), ?_, ?_⟩⟩
      · rw [hrun, Lib.run_indexByteString, hu]; rfl
      · rw [(hidx s.data.toList).1 j h1 h2]; simp [VR]
    · refine ⟨_, st, h3, Nat.le_refl _, fun h => h, fun N μ w A _ _ hr hA => ?_⟩
      obtain ⟨X, Y, rfl, hX, hY⟩ := VRs2 hA
      obtain ⟨s, rfl, rfl⟩ := hX
      simp only [VR] at hY; subst hY
      refine ⟨μ, w, Post.refl hr, .inl ⟨.int .i64 (Lib.indexByte s.data.toList u), ?_, ?_⟩⟩
      · rw [hrun, Lib.run_indexByteString, hu]; rfl
      · rw [(hidx s.data.toList).2 h1]; simp [VR]
  · rename_i t id hext
    rcases hcase with ⟨h1, rfl⟩ | ⟨h1, rfl⟩ | ⟨h1, rfl⟩ | ⟨h1, rfl⟩ <;> (try (rw [hext] at h1; cases h1))
    split at h
    case h_2 => cases h
    rename_i es clock hbl
    rw [newK_push] at h
    refine ⟨_, _, h, by simp [St.push], fun hw => hw.push _ (by intro g hg; simp [Blk.grp?] at hg), fun N μ w A hw hfr hr hA => ?_⟩
    have hf0 : μ.b st.next = none := hfr _ (Nat.le_refl _) (by simp [St.push])
    obtain ⟨X, rfl, hX⟩ := VRs1 hA
    obtain ⟨W, rfl, hW⟩ := hX
    obtain ⟨q, hm, rfl⟩ := hW
    obtain ⟨q', hm', _, _, arr, hob, hE⟩ := hr.blk id _ hbl rfl
    rw [hm] at hm'; cases hm'
    have hg := run_getO (P := P) hob (by intros; simp)
    refine ⟨_, _, Post.new hr hf0 (.map es clock) rfl (.map arr clock) 0 ⟨arr, rfl, hE.mono (Mu.le_new hf0)⟩, .inl ⟨.iface t (.map (some w.heap.size)), ?_, ⟨_, rfl, w.heap.size, by simp [Mu.new], rfl⟩⟩⟩
    rw [hrun]
    have hc : Extern.MapsClone.clone #[.iface t (.map (some q))] = (do
      let .map entries clock ← getObj q | stuck "maps.clone: a map expected"
      pure (.iface t (.map (some (← newObj (.map entries clock)))))) := rfl
    rw [hc]
    simp [hg]
  · rename_i x hext
    rcases hcase with ⟨h1, rfl⟩ | ⟨h1, rfl⟩ | ⟨h1, rfl⟩ | ⟨h1, rfl⟩ <;> (try (rw [hext] at h1; cases h1))
    refine ⟨_, st, h, Nat.le_refl _, fun h => h, fun N μ w A _ _ hr hA => ?_⟩
    obtain ⟨X, rfl, hX⟩ := VRs1 hA
    exact ⟨μ, w, Post.refl hr, .inl ⟨X, by rw [hrun, show Extern.AbiNoEscape.same #[X] = pure X from rfl]; rfl, hX⟩⟩
  · cases h

/-- A call of a function value. -/
theorem callK_true {fv : AV} {args : List AV} (h : callK P st fv args K = true) : ∃ nx st', K nx st' = true ∧ st.next ≤ st'.next ∧ (Wf st → Wf st') ∧
    ∀ N μ w F (A : Array Value), Wf st → Fresh μ st.next st'.next → Rel G N μ st w → VR μ fv F → VRs μ args A.toList →
      ∃ μ' w', Post G N st μ w st' μ' w' ∧ OutR μ' st' w' nx ((do let d ← Deferred.ofValue F A; invoke d.target d.args : Sem Next).run P w) := by
  unfold callK at h
  split at h
  · rename_i g first capt
    split at h
    case h_2 => cases h
    rename_i fn hfn
    have hfn := tfunc_some P hfn
    split at h
    · rename_i body hbody
      split at h
      · cases h
      · rename_i hname
        simp only [appK_eq] at h
        refine ⟨_, st, h, Nat.le_refl _, fun h => h, fun N μ w F A _ _ hr hF hA => ?_⟩
        obtain ⟨B, C, rfl, hB, hC⟩ := hF
        refine ⟨μ, w, Post.refl hr, B ++ A ++ C, ?_, ?_⟩
        · have hname : fn.name ≠ "runtime.NumGoroutine" := by simpa using hname
          simp [Deferred.ofValue, invoke, callFunc, hfn, hbody, hname]
        · simp only [Array.toList_append, List.append_assoc]
          exact hB.append (hA.append hC)
    · rename_i hbody
      simp only [appK_eq] at h
      obtain ⟨nx, st', h1, h2, h3, h4⟩ := externK_true (G := G) hfn hbody h
      refine ⟨nx, st', h1, h2, h3, fun N μ w F A hw hf hr hF hA => ?_⟩
      obtain ⟨B, C, rfl, hB, hC⟩ := hF
      obtain ⟨μ', w', h5, h6⟩ := h4 N μ w (B ++ A ++ C) hw hf hr (by simp only [Array.toList_append, List.append_assoc]; exact hB.append (hA.append hC))
      exact ⟨μ', w', h5, by simpa [Deferred.ofValue, invoke] using h6⟩
  · rename_i id
    split at h
    case h_2 => cases h
    rename_i s p fn tm' sz params assign body d hbl
    obtain ⟨hlen, tm2, hk, hT⟩ := putAll_true h
    refine ⟨_, st, hk, Nat.le_refl _, fun h => h, fun N μ w F A _ _ hr hF hA => ?_⟩
    obtain ⟨r, hm, rfl⟩ := hF
    obtain ⟨r', hm', _, _, L, dd, hob, hd, hTR, hs, hp, hfn, hps, has, hbd, hdf⟩ := hr.blk id _ hbl rfl
    rw [hm] at hm'; cases hm'
    have hg := run_getO (P := P) hob (by intros; simp)
    refine ⟨μ, w, Post.refl hr, r, (L.params.zip A).foldl (fun tmps (t, a) => tmps.setIfInBounds t a) L.tmps, hm, ?_, fun s' p' g' t' sz' ps' a' c' d' hb' => ?_⟩
    · have hsz : A.size = L.params.size := by
        have := hA.len
        rw [← Array.length_toList, ← Array.length_toList, hps, ← this, hlen]
      simp [Deferred.ofValue, invoke, Instr.yield, Instr.getLoop, hg, hsz, hfn, has, hbd]
    · rw [hbl] at hb'; cases hb'
      have := hT μ L.tmps A.toList hTR hA
      rw [← hps] at this
      rw [← Array.foldl_toList, Array.toList_zip]
      exact this
  · cases h
end
end Go.Shd
/- Steps of iterators; all operations. -/
namespace Go.Shd
noncomputable section
variable {G : Globals} {P : Program} {o : Oper} {tm : T AV} {st : St} {K : ONext → St → Bool}

theorem bytesOf_back (s : ByteArray) : (⟨((bytesOf s).map UInt8.ofNat).toArray⟩ : ByteArray) = s := by
  have : (bytesOf s).map UInt8.ofNat = s.data.toList := by
    unfold bytesOf
    rw [List.map_map]
    conv => rhs; rw [← List.map_id s.data.toList]
    exact List.map_congr_left (fun x _ => by simp)
  rw [this]

theorem ER_filter {μ : Mu} (p : Nat → Bool) : ∀ {l : List AEntry} {m : List MapEntry}, ER μ l m → ER μ (l.filter fun e => p e.born) (m.filter fun e => p e.born)
  | [], m, h => by rw [ER_nil] at h; subst h; simp [ER_nil]
  | x :: l, m, h => by
    obtain ⟨E, m', rfl, h1, h2⟩ := ER_cons.1 h
    simp only [List.filter_cons, h1.2.2]
    split
    · exact ER_cons.2 ⟨E, _, rfl, h1, ER_filter p h2⟩
    · exact ER_filter p h2

theorem ER_all {μ : Mu} (p : Nat → Bool) : ∀ {l : List AEntry} {m : List MapEntry}, ER μ l m → (l.all fun e => p e.born) = (m.all fun e => p e.born)
  | [], m, h => by rw [ER_nil] at h; subst h; rfl
  | x :: l, m, h => by
    obtain ⟨E, m', rfl, h1, h2⟩ := ER_cons.1 h
    simp only [List.all_cons, h1.2.2, ER_all p h2]

theorem memNat_eq (n : Nat) : ∀ l : List Nat, memNat n l = l.contains n
  | [] => rfl
  | m :: l => by
    simp only [memNat, List.contains_cons]
    split
    · rename_i h; have := of_beq h; subst this; simp
    · rename_i h
      have : ¬ n = m := fun e => (of_beq_false h) e.symm
      rw [memNat_eq n l]; simp [this]

theorem ble_eq (m n : Nat) : Nat.ble m n = decide (m ≤ n) := by
  by_cases h : m ≤ n
  · rw [Nat.ble_eq_true_of_le h]; simp [h]
  · cases hb : Nat.ble m n with
    | false => simp [h]
    | true => exact absurd (of_ble hb) h

theorem sound_next {it : Operand} {isString : Bool} (ho : o.op = .next it isString) (h : evK tm it (fun v => nextK st v isString fun v st => K (.val v) st) = true) : SoundX P G o tm st K := by
  refine ⟨?_, .inr (.inr (by rw [ho]; rfl))⟩
  obtain ⟨a, h1, ha⟩ := evK_true h
  clear h
  unfold nextK at h1
  split at h1
  case h_2 => cases h1
  rename_i id
  have hit : ∀ N μ w ρ, Rel G N μ st w → (∀ x ∈ o.op.operands, OpR μ tm ρ x) → ∃ r, μ.b id = some r ∧ ρ it = .pointer (some ⟨r, 0, none⟩) := by
    intro N μ w ρ hr hx
    obtain ⟨r, h2, h3⟩ := ha μ ρ (hx it (by simp [ho, Op.operands]))
    exact ⟨r, h2, h3⟩
  clear ha
  generalize hb : st.heap.get (key id) = bl at h1
  split at h1
  · rename_i s pos
    have ho : o.op = .next it true := by assumption
    split at h1
    · rename_i hlt
      have hlt := of_blt hlt
      generalize hdec : Utf8.decode ⟨(s.map UInt8.ofNat).toArray⟩ pos = cw at h1
      obtain ⟨c, width⟩ := cw
      simp only [natK_eq, Nat.add_eq] at h1
      rw [setBlkK_eq] at h1
      refine ⟨_, _, h1, Nat.le_refl _, fun hw => hw.setB hb _ (by intro b'' h; cases h; rfl), fun N μ w ρ _ _ hr hx => ?_⟩
      obtain ⟨r, hm, hv⟩ := hit N μ w ρ hr hx
      obtain ⟨r', hm', _, _, bs, hob, hbs⟩ := hr.blk id _ hb rfl
      rw [hm] at hm'; cases hm'
      subst hbs
      rw [bytesOf_back] at hdec
      have hlt : pos < bs.size := by rw [← bytesOf_length]; exact hlt
      have hg := run_getO (P := P) hob (by intros; simp)
      have hs := fun o' => run_setO (P := P) o' hob (by intros; simp)
      refine ⟨μ, wput w r (.stringIter bs (pos + width)), Post.setB hr hb rfl rfl hm _ rfl rfl _ ⟨bs, rfl, rfl⟩, .inl ⟨.tuple #[.bool true, goInt pos, .int .i32 c], ?_, ⟨_, rfl, by simp [VR, goInt]⟩⟩⟩
      simp [execOp, ho, Instr.next, hv, hg, hlt, hdec, hs]
    · rename_i hlt
      have hlt := of_blt_false hlt
      refine ⟨_, st, h1, Nat.le_refl _, fun h => h, fun N μ w ρ _ _ hr hx => ?_⟩
      obtain ⟨r, hm, hv⟩ := hit N μ w ρ hr hx
      obtain ⟨r', hm', _, _, bs, hob, hbs⟩ := hr.blk id _ hb rfl
      rw [hm] at hm'; cases hm'
      subst hbs
      have hlt : ¬ pos < bs.size := by rw [← bytesOf_length]; omega
      have hg := run_getO (P := P) hob (by intros; simp)
      exact ⟨μ, w, Post.refl hr, .inl ⟨.tuple #[.bool false], by simp [execOp, ho, Instr.next, hv, hg, hlt], ⟨_, rfl, by simp [VR]⟩⟩⟩
  · have ho : o.op = .next it false := by assumption
    refine ⟨_, st, h1, Nat.le_refl _, fun h => h, fun N μ w ρ _ _ hr hx => ?_⟩
    obtain ⟨r, hm, hv⟩ := hit N μ w ρ hr hx
    obtain ⟨r', hm', _, _, M, hob, hM⟩ := hr.blk id _ hb rfl
    rw [hm] at hm'; cases hm'
    simp only at hM; subst hM
    have hg := run_getO (P := P) hob (by intros; simp)
    exact ⟨μ, w, Post.refl hr, .inl ⟨.tuple #[.bool false], by simp [execOp, ho, Instr.next, hv, hg], ⟨_, rfl, by simp [VR]⟩⟩⟩
  · rename_i m since seen last
    have ho : o.op = .next it false := by assumption
    split at h1
    case h_2 => cases h1
    rename_i es clock hbm
    split at h1
    · cases h1
    rename_i hgone
    rw [listK_eq] at h1
    have key : ∀ N μ w ρ, Rel G N μ st w → (∀ x ∈ o.op.operands, OpR μ tm ρ x) → ∃ r q Es, μ.b id = some r ∧ μ.b m = some q ∧ w.heap[r]? = some (.mapIter (some q) since seen.toArray last) ∧ w.heap[q]? = some (.map Es clock) ∧ ρ it = .pointer (some ⟨r, 0, none⟩) ∧
        ER μ es Es.toList ∧ (!seen.toArray.isEmpty && !Es.isEmpty && Es.all (fun e => decide (e.born ≥ last))) = false ∧ ER μ (es.filter fun e => !(memNat e.born seen)) (Es.filter fun e => !(seen.toArray.contains e.born)).toList := by
      intro N μ w ρ hr hx
      obtain ⟨r, hm, hv⟩ := hit N μ w ρ hr hx
      obtain ⟨r', hm', _, _, M, hob, hM⟩ := hr.blk id _ hb rfl
      rw [hm] at hm'; cases hm'
      obtain ⟨q, hq, rfl⟩ := hM
      obtain ⟨q', hq', _, _, Es, hob2, hE⟩ := hr.blk m _ hbm rfl
      rw [hq] at hq'; cases hq'
      refine ⟨r, q, Es, hm, hq, hob, hob2, hv, hE, ?_, ?_⟩
      · have h1 := ER_all (fun b => Nat.ble last b) hE
        have h2 := ER_len hE
        rw [← hgone]
        congr 1
        · congr 1
          · simp
          · cases es with
            | nil => rw [ER_nil] at hE; cases Es; simp at hE; simp [hE]
            | cons x xs => cases Es with
              | mk l => cases l with
                | nil => simp at h2
                | cons y ys => simp
        · rw [h1, ← Array.all_toList]
          congr 1
          funext e
          rw [ble_eq]
      · have := ER_filter (fun b => !(memNat b seen)) hE
        rw [Array.toList_filter]
        have e : (fun e : MapEntry => !(seen.toArray.contains e.born)) = fun e => !(memNat e.born seen) := by
          funext e; rw [memNat_eq]; simp
        rw [e]; exact this
    split at h1
    · rename_i hleft
      refine ⟨_, st, h1, Nat.le_refl _, fun h => h, fun N μ w ρ _ _ hr hx => ?_⟩
      obtain ⟨r, q, Es, hm, hq, hob, hob2, hv, hE, hall, hf⟩ := key N μ w ρ hr hx
      rw [hleft, ER_nil] at hf
      have hf : (Es.filter fun e => !(seen.toArray.contains e.born)) = #[] := by
        generalize (Es.filter fun e => !(seen.toArray.contains e.born)) = X at hf; cases X; simp at hf; simp [hf]
      have hg := run_getO (P := P) hob (by intros; simp)
      have hg2 := run_getO (P := P) hob2 (by intros; simp)
      refine ⟨μ, w, Post.refl hr, .inl ⟨.tuple #[.bool false], ?_, ⟨_, rfl, by simp [VR]⟩⟩⟩
      simp only [execOp, ho, Instr.next, hv, Sem.run_bind, hg, hg2, Result.andThen_ok, hall, hf]
      simp [Question.forced]
    · rename_i e hleft
      split at h1
      case h_2 => cases h1
      rename_i hlt
      have hlt := of_blt hlt
      rw [appK_eq, setBlkK_eq] at h1
      refine ⟨_, _, h1, Nat.le_refl _, fun hw => hw.setB hb _ (by intro b'' h; cases h; rfl), fun N μ w ρ _ _ hr hx => ?_⟩
      obtain ⟨r, q, Es, hm, hq, hob, hob2, hv, hE, hall, hf⟩ := key N μ w ρ hr hx
      rw [hleft] at hf
      obtain ⟨E, m', hf1, ⟨hk1, hk2, hk3⟩, hf2⟩ := ER_cons.1 hf
      rw [ER_nil] at hf2; subst hf2
      have hf : (Es.filter fun e => !(seen.toArray.contains e.born)) = #[E] := by
        generalize (Es.filter fun e => !(seen.toArray.contains e.born)) = X at hf1; cases X; simp at hf1; simp [hf1]
      have hg := run_getO (P := P) hob (by intros; simp)
      have hg2 := run_getO (P := P) hob2 (by intros; simp)
      have hs := fun o' => run_setO (P := P) o' hob (by intros; simp)
      have hlt' : E.born < since := by omega
      have hnle : ¬ since ≤ E.born := by omega
      refine ⟨μ, wput w r (.mapIter (some q) since (seen ++ [e.born]).toArray clock), Post.setB hr hb rfl rfl hm _ rfl rfl _ ⟨some q, rfl, q, hq, rfl⟩, .inl ⟨.tuple #[.bool true, E.key, E.val], ?_, ⟨_, rfl, by simp [VR, hk1, hk2]⟩⟩⟩
      simp only [execOp, ho, Instr.next, hv, Sem.run_bind, hg, hg2, Result.andThen_ok, hall, hf]
      have f1 : List.filter (fun x : MapEntry => decide (x.born < since)) [E] = [E] := by simp [hlt']
      have f2 : List.filter (fun x : MapEntry => decide (since ≤ x.born)) [E] = [] := by simp; omega
      have hnle' : ¬ since ≤ e.born := by omega
      simp [Question.forced, hlt', hnle, hnle', hs, hk3, f1, f2]
    · cases h1
  · cases h1

theorem sound_entry {it : Operand} (ho : o.op = .entry it) (h : evK tm it (fun v => match v with
    | .ptr id 0 => match st.heap.get (key id) with
      | some (.mit (some m) _ seen stepped) => match seen.getLast?, st.heap.get (key m) with
        | some s, some (.map es clock) => match Nat.beq clock stepped with
          | true => stampK s es 0 fun i => nthK i es fun e => K (.val (.tup [e.key, e.val])) st
          | false => false
        | _, _ => false
      | _ => false
    | _ => false) = true) : SoundX P G o tm st K := by
  obtain ⟨a, h1, ha⟩ := evK_true h
  clear h
  split at h1
  case h_2 => cases h1
  rename_i id
  split at h1
  case h_2 => cases h1
  rename_i m since seen stepped hb
  split at h1
  case h_2 => cases h1
  rename_i s es clock hlast hbm
  split at h1
  case h_2 => cases h1
  rename_i hck
  have := of_beq hck; subst this
  obtain ⟨j, h2, _, ⟨e', he', hbn⟩, hfirst⟩ := stampK_true h1
  clear h1
  simp only [Nat.sub_zero] at he' hfirst
  obtain ⟨e, he, hk⟩ := nthK_true h2
  rw [he] at he'; cases he'
  refine Sound.same hk fun N μ w ρ _ hr hx => ?_
  obtain ⟨r, hm, hv⟩ := ha μ ρ (hx it (by simp [ho, Op.operands]))
  obtain ⟨r', hm', _, _, M, hob, hM⟩ := hr.blk id _ hb rfl
  rw [hm] at hm'; cases hm'
  obtain ⟨q, hq, rfl⟩ := hM
  obtain ⟨q', hq', _, _, Es, hob2, hE⟩ := hr.blk m _ hbm rfl
  rw [hq] at hq'; cases hq'
  obtain ⟨E, hE1, hE2, hE3, hE4⟩ := ER_get hE he
  have hfind : Es.find? (·.born == s) = some E := by
    have h3 : Es.toList.find? (·.born == s) = some E := by
      rw [List.find?_eq_some_iff_getElem]
      refine ⟨by simp [hE4, hbn], j, (List.getElem?_eq_some_iff.1 hE1).1, (List.getElem?_eq_some_iff.1 hE1).2, fun k hk => ?_⟩
      have hk' : k < es.length := by have := (List.getElem?_eq_some_iff.1 he).1; omega
      obtain ⟨E', hE1', _, _, hE4'⟩ := ER_get hE (List.getElem?_eq_getElem hk')
      have := (List.getElem?_eq_some_iff.1 hE1').2
      rw [this, hE4']
      have := hfirst k _ hk (List.getElem?_eq_getElem hk')
      simp; omega
    cases Es; simpa using h3
  have hg := run_getO (P := P) hob (by intros; simp)
  have hg2 := run_getO (P := P) hob2 (by intros; simp)
  have hback : seen.toArray.back? = some s := by rw [← hlast]; simp
  refine ⟨.tuple #[E.key, E.val], ?_, ⟨_, rfl, by simp [VR, hE2, hE3]⟩⟩
  simp [execOp, ho, Instr.entry, hv, hg, hg2, hback, hfind]
end
end Go.Shd
/- All operations: one theorem. -/
namespace Go.Shd
noncomputable section
variable {G : Globals} {P : Program} {o : Oper} {tm : T AV} {st : St} {K : ONext → St → Bool}

theorem sound_call {c : Call} (ho : o.op = .call c) (h : evsK tm c.args.toList (fun args => match c.callee with
    | .builtin b => builtinK P G st b c.argTypes args K
    | .value f => evK tm f fun f => callK P st f args K
    | .invoke _ _ => false) = true) : SoundX P G o tm st K := by
  obtain ⟨as, h1, has⟩ := evsK_true h
  clear h
  have hargs : ∀ μ ρ, (∀ x ∈ o.op.operands, OpR μ tm ρ x) → VRs μ as (c.args.map ρ).toList := by
    intro μ ρ hx
    simpa using has μ ρ (fun x hx' => hx x (by simp only [ho, Op.operands, Call.operands]; cases c.callee <;> simp <;> (try exact .inl (by simpa using hx')) <;> (try exact .inr (by simpa using hx')) <;> (try simpa using hx')))
  split at h1
  · rename_i b hcal
    have hkind : SameS P G o tm st K ∨ MakeS P G o tm st K ∨ (kindOf o.op).eff = true := by
      have quiet : CallQ P G st K as (builtin b c.argTypes o.type (c.args.map fun | .const _ => true | _ => false)) → SameS P G o tm st K := by
        rintro ⟨v, hk, hq⟩
        refine ⟨v, hk, fun N μ w ρ hw hr hx => ?_⟩
        obtain ⟨V, h2, h3⟩ := hq N μ w (c.args.map ρ) hr (hargs μ ρ hx)
        exact ⟨V, by simp [execOp, ho, resolve, hcal, invoke]; exact h2, h3⟩
      have hc : c = ⟨.builtin b, c.args, c.argTypes⟩ := by cases c; simp at hcal; simp [hcal]
      cases b
      case len => exact .inl (quiet (builtin_len h1))
      case cap => exact .inl (quiet (builtin_cap h1))
      case max => exact .inl (quiet (builtin_max h1))
      case min => exact .inl (quiet (builtin_min h1))
      all_goals exact .inr (.inr (by rw [ho, hc]; rfl))
    refine ⟨?_, hkind⟩
    obtain ⟨nx, st', hk, hn, hwf, hv⟩ := builtinK_true (type := o.type) (cs := c.args.map fun | .const _ => true | _ => false) h1
    refine ⟨nx, st', hk, hn, hwf, fun N μ w ρ hw hf hr hx => ?_⟩
    obtain ⟨μ', w', h2, h3⟩ := hv N μ w (c.args.map ρ) hw hf hr (hargs μ ρ hx)
    exact ⟨μ', w', h2, by simp [execOp, ho, resolve, hcal, invoke]; exact h3⟩
  · rename_i f hcal
    have hc : c = ⟨.value f, c.args, c.argTypes⟩ := by cases c; simp at hcal; simp [hcal]
    refine ⟨?_, .inr (.inr (by rw [ho, hc]; rfl))⟩
    obtain ⟨fv, h2, hfv⟩ := evK_true h1
    clear h1
    obtain ⟨nx, st', hk, hn, hwf, hv⟩ := callK_true (G := G) h2
    refine ⟨nx, st', hk, hn, hwf, fun N μ w ρ hw hf hr hx => ?_⟩
    obtain ⟨μ', w', h3, h4⟩ := hv N μ w (ρ f) (c.args.map ρ) hw hf hr (hfv μ ρ (hx f (by simp [ho, Op.operands, Call.operands, hcal]))) (hargs μ ρ hx)
    exact ⟨μ', w', h3, by simpa [execOp, ho, resolve, hcal] using h4⟩
  · cases h1

theorem sound_defer {c : Call} (ho : o.op = .defer c) (h : evsK tm c.args.toList (fun args => match c.callee with
    | .value f => evK tm f fun f => match f with
      | .fn g first capt => appK args capt fun l => appK first l fun l => K (.dfr ⟨g, l⟩) st
      | _ => false
    | _ => false) = true) : SoundX P G o tm st K := by
  refine ⟨?_, .inr (.inr (by rw [ho]; rfl))⟩
  obtain ⟨as, h1, has⟩ := evsK_true h
  clear h
  split at h1
  case h_2 => cases h1
  rename_i f hcal
  obtain ⟨fv, h2, hfv⟩ := evK_true h1
  clear h1
  split at h2
  case h_2 => cases h2
  rename_i g first capt
  simp only [appK_eq] at h2
  refine ⟨_, st, h2, Nat.le_refl _, fun h => h, fun N μ w ρ _ _ hr hx => ?_⟩
  have hA : VRs μ as (c.args.map ρ).toList := by
    simpa using has μ ρ (fun x hx' => hx x (by simp only [ho, Op.operands, Call.operands, hcal]; simp; exact .inr (by simpa using hx')))
  obtain ⟨B, C, e, hB, hC⟩ := hfv μ ρ (hx f (by simp [ho, Op.operands, Call.operands, hcal]))
  refine ⟨μ, w, Post.refl hr, C, B ++ c.args.map ρ, ?_, ?_⟩
  · simp [execOp, ho, resolve, hcal, e, Deferred.ofValue]
  · simp only [Array.toList_append, List.append_assoc]
    exact hB.append (hA.append hC)

theorem sound_panic {x : Operand} (ho : o.op = .panic x) (h : evK tm x (fun v => match v with
    | .ifc t v => K (.panic (.ifc t v)) st
    | _ => false) = true) : SoundX P G o tm st K := by
  refine ⟨?_, .inr (.inr (by rw [ho]; rfl))⟩
  obtain ⟨v, h1, hv⟩ := evK_true h
  clear h
  split at h1
  case h_2 => cases h1
  refine ⟨_, st, h1, Nat.le_refl _, fun h => h, fun N μ w ρ _ _ hr hx => ?_⟩
  obtain ⟨W, e, hW⟩ := hv μ ρ (hx x (by simp [ho, Op.operands]))
  exact ⟨μ, w, Post.refl hr, _, by simp [execOp, ho, e, Instr.panic, goPanic], ⟨W, rfl, hW⟩⟩

/-- The shadow of an operation is sound. -/
theorem opK_soundX (h : opK P G o tm st K = true) : SoundX P G o tm st K := by
  unfold opK at h
  cases ho : o.op <;> rw [ho] at h <;> simp only at h
  case move => exact sound_move (.inl ho) h
  case assign => exact sound_move (.inr ho) h
  case pick => exact sound_pick ho h
  case alloc => exact sound_alloc ho h
  case box => exact sound_box ho h
  case build => exact sound_build ho h
  case buildSlice => exact sound_buildSlice ho h
  case load => exact sound_load ho h
  case store => exact sound_store ho h
  case nilCheck => exact sound_nilCheck ho h
  case binOp => exact sound_binOp ho h
  case unOp => exact sound_unOp h ho
  case convert => exact sound_convert ho h
  case makeInterface => exact sound_makeInterface ho h
  case makeFunc f first capt =>
    cases f <;> simp only at h
    case func => exact sound_makeFunc ho h
    all_goals (cases h; done)
  case makeMap => exact sound_makeMap ho h
  case makeSlice => exact sound_makeSlice ho h
  case slice => exact sound_slice ho h
  case fieldAddr => exact sound_fieldAddr ho h
  case field => exact sound_field ho h
  case indexAddr => exact sound_indexAddr ho h
  case index => exact sound_index ho h
  case lookup => exact sound_lookup ho h
  case mapUpdate => exact sound_mapUpdate (.inl ho) h
  case insert => exact sound_mapUpdate (.inr ho) h
  case mapEntry => exact sound_mapEntry ho h
  case entryStore => exact sound_entryStore ho h
  case range => exact sound_range ho h
  case next => exact sound_next ho h
  case entry => exact sound_entry ho h
  case typeAssert => exact sound_typeAssert h ho
  case extract => exact sound_extract ho h
  case call => exact sound_call ho h
  case defer => exact sound_defer ho h
  case panic => exact sound_panic ho h
  all_goals (cases h; done)

theorem opK_sound (h : opK P G o tm st K = true) : Sound P G o tm st K := (opK_soundX h).1
end
end Go.Shd
/- Frames: what a run of the shadow says of the machine. -/
namespace Go.Shd
noncomputable section
variable {G : Globals} {P : Program}

/-! ### Frames -/
def DR (μ : Mu) : DItem → Deferred → Prop
  | .call d, D => ∃ C A : Array Value, D = { target := .fn (.func d.f) C, args := A } ∧ VRs μ d.args (A.toList ++ C.toList)
  | .coll id, D => ∃ r, μ.b id = some r ∧ D = { target := .collected r, args := #[] }

def DRs (μ : Mu) : List DItem → List Deferred → Prop
  | [], m => m = []
  | d :: l, m => ∃ D m', m = D :: m' ∧ DR μ d D ∧ DRs μ l m'

theorem DR.mono {μ μ' : Mu} (hl : Le μ μ') {d : DItem} {D : Deferred} (h : DR μ d D) : DR μ' d D := by
  cases d with
  | call d => obtain ⟨C, A, e, h⟩ := h; exact ⟨C, A, e, VRs.mono hl _ _ h⟩
  | coll id => obtain ⟨r, hr, e⟩ := h; exact ⟨r, (hl _ _ hr).1, e⟩
theorem DRs.mono {μ μ' : Mu} (hl : Le μ μ') : ∀ {l : List DItem} {m : List Deferred}, DRs μ l m → DRs μ' l m
  | [], _, h => h
  | _ :: _, _, h => by obtain ⟨D, m', e, h1, h2⟩ := h; exact ⟨D, m', e, h1.mono hl, h2.mono hl⟩

/-- A round's loop. -/
def RndR (μ : Mu) (rnd r : Option Nat) : Prop :=
  match rnd with
  | none => r = none
  | some l => ∃ q, μ.b l = some q ∧ r = some q
theorem RndR.mono {μ μ' : Mu} (hl : Le μ μ') {rnd r : Option Nat} (h : RndR μ rnd r) : RndR μ' rnd r := by
  cases rnd with
  | none => exact h
  | some l => obtain ⟨q, hq, e⟩ := h; exact ⟨q, (hl _ _ hq).1, e⟩

/-- A frame but for its mode and what it has to do. -/
structure FR0 (μ : Mu) (fn : FuncId) (tm : T AV) (sz : Nat) (defs : List DItem) (rnd : Option Nat) (dfd : Bool) (mf : Frame) : Prop where
  hfn : mf.fn = fn
  htm : TR μ tm sz mf.tmps
  hdefs : DRs μ defs mf.defers
  hkind : mf.kind = if dfd then .deferred else .normal
  hrnd : RndR μ rnd mf.roundOf
  plain : dfd = true → rnd = none

theorem FR0.mono {μ μ' : Mu} (hl : Le μ μ') {fn : FuncId} {tm : T AV} {sz : Nat} {defs : List DItem} {rnd : Option Nat} {dfd : Bool} {mf : Frame} (h : FR0 μ fn tm sz defs rnd dfd mf) :
    FR0 μ' fn tm sz defs rnd dfd mf := ⟨h.hfn, h.htm.mono hl, h.hdefs.mono hl, h.hkind, h.hrnd.mono hl, h.plain⟩

/-- What of the caller's mode a deferred call's frame may see. -/
def UpM (μ : Mu) (up : Option AV) (recd : Bool) (md : FrameMode) : Prop :=
  match up, recd with
  | some v, false => ∃ V, VR μ v V ∧ md = .panicking [{ v := V, recovered := false }]
  | none, false => md = .returning
  | none, true => ∃ V, md = .panicking [{ v := V, recovered := true }]
  | some _, true => False

def CsR (μ : Mu) (dfd : Bool) (up : Option AV) (recd : Bool) (cs0 cs : List Frame) : Prop :=
  match dfd with
  | false => cs = cs0
  | true => ∃ c rest md, cs0 = c :: rest ∧ cs = { c with mode := md } :: rest ∧ UpM μ up recd md

theorem UpM.mono {μ μ' : Mu} (hl : Le μ μ') {up : Option AV} {recd : Bool} {md : FrameMode} (h : UpM μ up recd md) : UpM μ' up recd md := by
  cases up <;> cases recd
  · exact h
  · exact h
  · obtain ⟨V, h1, h2⟩ := h; exact ⟨V, h1.mono hl, h2⟩
  · exact h
theorem CsR.mono {μ μ' : Mu} (hl : Le μ μ') {dfd : Bool} {up : Option AV} {recd : Bool} {cs0 cs : List Frame} (h : CsR μ dfd up recd cs0 cs) : CsR μ' dfd up recd cs0 cs := by
  cases dfd with
  | false => exact h
  | true => obtain ⟨c, rest, md, e1, e2, h⟩ := h; exact ⟨c, rest, md, e1, e2, h.mono hl⟩

/-- A frame recovers once at the most. -/
def UpOk (up : Option AV) (recd : Bool) (up' : Option AV) (recd' : Bool) : Prop := (up' = up ∧ recd' = recd) ∨ recd' = true

theorem UpOk.refl (up : Option AV) (recd : Bool) : UpOk up recd up recd := .inl ⟨rfl, rfl⟩
theorem UpOk.trans {a b c : Option AV} {x y z : Bool} (h : UpOk a x b y) (h' : UpOk b y c z) : UpOk a x c z := by
  rcases h' with ⟨rfl, rfl⟩ | h'
  · exact h
  · exact .inr h'

/-- How a frame is left. -/
def EndR (P : Program) (μ : Mu) (w : World) (fn : FuncId) (rnd : Option Nat) (dfd : Bool) (up : Option AV) (recd : Bool) (cs0 : List Frame) (e : AEnd) (M : Machine) : Prop :=
  match rnd with
  | none => ∃ mf cs up' recd', UpOk up recd up' recd' ∧ Steps P M (lone mf cs w) ∧ mf.fn = fn ∧ mf.defers = [] ∧ mf.kind = (if dfd then .deferred else .normal) ∧ CsR μ dfd up' recd' cs0 cs ∧
      match e with
      | .ret v r => mf.mode = .returning ∧ (dfd = true → r = recd') ∧ ∃ V fd, P.funcs[fn]? = some fd ∧ (results fd mf.tmps).run P w = .ok V w ∧ VR μ v V
      | .pan v => dfd = false ∧ ∃ V, mf.mode = .panicking [{ v := V, recovered := false }] ∧ VR μ v V ∧ ∃ fd, P.funcs[fn]? = some fd
  | some _ => ∀ c rest, cs0 = c :: rest → match e with
      | .ret v _ => ∃ V, VR μ v V ∧ Steps P M (lone (c.finish V) rest w)
      | .pan v => ∃ V, VR μ v V ∧ Steps P M (lone (c.raise [{ v := V, recovered := false }]) rest w)

theorem EndR.of_steps {μ : Mu} {w : World} {fn : FuncId} {rnd : Option Nat} {dfd : Bool} {up up0 : Option AV} {recd recd0 : Bool} {cs0 : List Frame} {e : AEnd} {M M' : Machine} (hs : Steps P M M') (hu : UpOk up0 recd0 up recd) (h : EndR P μ w fn rnd dfd up recd cs0 e M') :
    EndR P μ w fn rnd dfd up0 recd0 cs0 e M := by
  cases rnd with
  | none => obtain ⟨mf, cs, up', recd', h0, h1, h2⟩ := h; exact ⟨mf, cs, up', recd', hu.trans h0, hs.trans h1, h2⟩
  | some l =>
    intro c rest hc
    have := h c rest hc
    cases e with
    | ret v r => obtain ⟨V, h1, h2⟩ := this; exact ⟨V, h1, hs.trans h2⟩
    | pan v => obtain ⟨V, h1, h2⟩ := this; exact ⟨V, h1, hs.trans h2⟩

/-- From a state on: what comes of it. -/
def From (P : Program) (G : Globals) (st : St) (K : AEnd → St → Bool) (fn : FuncId) (tm : T AV) (sz : Nat) (defs : List DItem) (rnd : Option Nat) (dfd : Bool) (up : Option AV) (recd : Bool) (Q : Mu → Frame → Prop) : Prop :=
  ∃ e st', K e st' = true ∧ st.next ≤ st'.next ∧ (Wf st → Wf st') ∧
    ∀ N μ w mf cs0 cs, Wf st → Fresh μ st.next st'.next → Rel G N μ st w → FR0 μ fn tm sz defs rnd dfd mf → Q μ mf → CsR μ dfd up recd cs0 cs →
      (rnd ≠ none → cs0 ≠ []) →
      ∃ μ' w', Post G N st μ w st' μ' w' ∧ EndR P μ' w' fn rnd dfd up recd cs0 e (lone mf cs w)

/-- A run's soundness. -/
def RunOk (P : Program) (G : Globals) (ih : Run) : Prop :=
  ∀ fr st K, ih fr st K = true → From P G st K fr.fn fr.tm fr.sz fr.defs fr.rnd fr.dfd fr.up fr.recd fun _ mf => mf.mode = .run ∧ mf.todo = fr.todo

/-- One step of the machine ahead, memory as it was. -/
theorem From.step {st : St} {K : AEnd → St → Bool} {fn : FuncId} {tm tm' : T AV} {sz sz' : Nat} {defs defs' : List DItem} {rnd : Option Nat} {dfd : Bool} {up up' : Option AV} {recd recd' : Bool} {Q Q' : Mu → Frame → Prop}
    (h : From P G st K fn tm' sz' defs' rnd dfd up' recd' Q') (hu : UpOk up recd up' recd')
    (hs : ∀ N μ w mf cs0 cs, Rel G N μ st w → FR0 μ fn tm sz defs rnd dfd mf → Q μ mf → CsR μ dfd up recd cs0 cs → ∃ mf' cs', Steps P (lone mf cs w) (lone mf' cs' w) ∧ FR0 μ fn tm' sz' defs' rnd dfd mf' ∧ Q' μ mf' ∧ CsR μ dfd up' recd' cs0 cs') :
    From P G st K fn tm sz defs rnd dfd up recd Q := by
  obtain ⟨e, st', hk, hn, hwf, h⟩ := h
  refine ⟨e, st', hk, hn, hwf, fun N μ w mf cs0 cs hw hf hr hfr hq hcs hne => ?_⟩
  obtain ⟨mf', cs', h1, h2, h3, h4⟩ := hs N μ w mf cs0 cs hr hfr hq hcs
  obtain ⟨μ', w', h5, h6⟩ := h N μ w mf' cs0 cs' hw hf hr h2 h3 h4 hne
  exact ⟨μ', w', h5, h6.of_steps h1 hu⟩

/-- One step of the machine ahead, memory turned. -/
theorem From.turn {st st₁ : St} {K : AEnd → St → Bool} {fn : FuncId} {tm tm' : T AV} {sz sz' : Nat} {defs defs' : List DItem} {rnd : Option Nat} {dfd : Bool} {up up' : Option AV} {recd recd' : Bool} {Q Q' : Mu → Frame → Prop}
    (h : From P G st₁ K fn tm' sz' defs' rnd dfd up' recd' Q') (hu : UpOk up recd up' recd') (hn1 : st.next ≤ st₁.next) (hwf1 : Wf st → Wf st₁)
    (hs : ∀ N μ w mf cs0 cs, Wf st → Fresh μ st.next st₁.next → Rel G N μ st w → FR0 μ fn tm sz defs rnd dfd mf → Q μ mf → CsR μ dfd up recd cs0 cs → (rnd ≠ none → cs0 ≠ []) →
      ∃ μ₁ w₁ mf' cs', Post G N st μ w st₁ μ₁ w₁ ∧ Steps P (lone mf cs w) (lone mf' cs' w₁) ∧ FR0 μ₁ fn tm' sz' defs' rnd dfd mf' ∧ Q' μ₁ mf' ∧ CsR μ₁ dfd up' recd' cs0 cs') :
    From P G st K fn tm sz defs rnd dfd up recd Q := by
  obtain ⟨e, st', hk, hn, hwf, h⟩ := h
  refine ⟨e, st', hk, by omega, fun hw => hwf (hwf1 hw), fun N μ w mf cs0 cs hw hf hr hfr hq hcs hne => ?_⟩
  obtain ⟨μ₁, w₁, mf', cs', hp, h1, h2, h3, h4⟩ := hs N μ w mf cs0 cs hw (hf.left hn) hr hfr hq hcs hne
  obtain ⟨μ', w', h5, h6⟩ := h N μ₁ w₁ mf' cs0 cs' (hwf1 hw) (hf.right hp hn1) hp.rel h2 h3 h4 hne
  exact ⟨μ', w', hp.trans h5 hn1 hn, h6.of_steps h1 hu⟩

/-- The frame's own values. -/
theorem FR0.eval {μ : Mu} {fn : FuncId} {tm : T AV} {sz : Nat} {defs : List DItem} {rnd : Option Nat} {dfd : Bool} {mf : Frame} (h : FR0 μ fn tm sz defs rnd dfd mf) (x : Operand) : OpR μ tm mf.eval x := by
  cases x with
  | tmp t => exact h.htm.2 t
  | const v => rfl
  | global g => rfl
  | func f => rfl
end
end Go.Shd
/- Steps of the machine at any frame. -/
namespace Go.Shd
noncomputable section
variable {G : Globals} {P : Program}

section steps
variable {mf : Frame} {cs : List Frame} {w : World} {k : List Item} (hm : mf.mode = .run)
include hm

theorem st_skip (ht : mf.todo = .code .skip :: k) : step P (lone mf cs w) = .next (lone { mf with todo := k } cs w) := step_lone_go (by simp [stepG, stepG.exec, hm, ht])
theorem st_label {l : Nat} (ht : mf.todo = .code (.label l) :: k) : step P (lone mf cs w) = .next (lone { mf with todo := k } cs w) := step_lone_go (by simp [stepG, stepG.exec, hm, ht])
theorem st_inBlock {l : Nat} (ht : mf.todo = .inBlock l :: k) : step P (lone mf cs w) = .next (lone { mf with todo := k } cs w) := step_lone_go (by simp [stepG, stepG.exec, hm, ht])
theorem st_inScope {c : Code} (ht : mf.todo = .inScope c :: k) : step P (lone mf cs w) = .next (lone { mf with todo := k } cs w) := step_lone_go (by simp [stepG, stepG.exec, hm, ht])
theorem st_seq {a b : Code} (ht : mf.todo = .code (.seq a b) :: k) : step P (lone mf cs w) = .next (lone { mf with todo := .code a :: .code b :: k } cs w) := step_lone_go (by simp [stepG, stepG.exec, hm, ht])
theorem st_cond {c : Operand} {a b : Code} {t : Bool} (ht : mf.todo = .code (.cond c a b) :: k) (hc : mf.eval c = .bool t) :
    step P (lone mf cs w) = .next (lone { mf with todo := .code (if t then a else b) :: k } cs w) := step_lone_go (by simp [stepG, stepG.exec, hm, ht, hc])
theorem st_block {id : Nat} {c : Code} (ht : mf.todo = .code (.block id c) :: k) : step P (lone mf cs w) = .next (lone { mf with todo := .code c :: .inBlock id :: k } cs w) := step_lone_go (by simp [stepG, stepG.exec, hm, ht])
theorem st_loop {c : Code} (ht : mf.todo = .code (.loop c) :: k) : step P (lone mf cs w) = .next (lone { mf with todo := .code c :: .inLoop c :: k } cs w) := step_lone_go (by simp [stepG, stepG.exec, hm, ht])
theorem st_inLoop {c : Code} (ht : mf.todo = .inLoop c :: k) : step P (lone mf cs w) = .next (lone { mf with todo := .code c :: .inLoop c :: k } cs w) := step_lone_go (by simp [stepG, stepG.exec, hm, ht])
theorem st_scope {c : Code} (ht : mf.todo = .code (.scope c) :: k) : step P (lone mf cs w) = .next (lone { mf with todo := .code c :: .inScope c :: k } cs w) := step_lone_go (by simp [stepG, stepG.exec, hm, ht])
theorem st_exit {id : Nat} {k' : List Item} (ht : mf.todo = .code (.exit id) :: k) (he : exitTo id k = some k') : step P (lone mf cs w) = .next (lone { mf with todo := k' } cs w) := step_lone_go (by simp [stepG, stepG.exec, hm, ht, he])
theorem st_goto {l : Nat} {k' : List Item} (ht : mf.todo = .code (.goto l) :: k) (he : gotoIn l k = some k') : step P (lone mf cs w) = .next (lone { mf with todo := k' } cs w) := step_lone_go (by simp [stepG, stepG.exec, hm, ht, he])
theorem st_region {id : Nat} {ops : Array Oper} (ht : mf.todo = .code (.region id ops false) :: k) : step P (lone mf cs w) = .next (lone { mf with todo := .inRegion ops (List.range ops.size) :: k } cs w) := step_lone_go (by simp [stepG, stepG.exec, hm, ht])
theorem st_region_draw {id : Nat} {ops : Array Oper} (ht : mf.todo = .code (.region id ops true) :: k) :
    step P (lone mf cs w) = .next (lone { mf with todo := .inRegion ops (Region.schedule (P.follows .mixedOrders) ops (w.tape w.drawn (.order mf.fn id))) :: k } cs w.drew) :=
  step_lone_go (by simp [stepG, stepG.exec, hm, ht, Question.forced, Question.cut])
theorem st_region_end {ops : Array Oper} (ht : mf.todo = .inRegion ops [] :: k) : step P (lone mf cs w) = .next (lone { mf with todo := k } cs w) := step_lone_go (by simp [stepG, stepG.exec, hm, ht])
theorem st_op_skip {ops : Array Oper} {i : Nat} {rest : List Nat} (ht : mf.todo = .inRegion ops (i :: rest) :: k) (hw : ((ops[i]?).map (Region.wanted · (yielded ops mf.tmps))).getD false = false) :
    step P (lone mf cs w) = .next (lone (mf.finish undef) cs w) := step_lone_go (by simp [stepG, stepG.exec, hm, ht, hw])
/-- An operation, not a deferred call in a round. -/
theorem st_op {ops : Array Oper} {i : Nat} {rest : List Nat} {o : Oper} (ht : mf.todo = .inRegion ops (i :: rest) :: k) (ho : ops[i]? = some o) (hw : Region.wanted o (yielded ops mf.tmps) = true) (hd : mf.roundOf = none ∨ ∀ c, o.op ≠ .defer c) :
    stepG P true { frame := mf, callers := cs, status := .running, dying := none } w = stepG.apply P true mf cs none (execOp mf.eval o) w := by
  have he : mf.oper? = some o := by simp [Frame.oper?, ht, ho]
  simp only [stepG, hm, stepG.exec, ht, ho, Option.map_some, Option.getD_some, hw, if_true, stepG.oper, he]
  split
  · rename_i l c h1 h2
    rcases hd with hd | hd
    · rw [hd] at h1; cases h1
    · exact absurd h2 (hd _)
  · rfl
/-- The frame's code is over: no round. -/
theorem st_leave (ht : mf.todo = [] ∨ mf.todo = .code .ret :: k) (hr : mf.roundOf = none) : step P (lone mf cs w) = .next (lone { mf with mode := .returning } cs w) := by
  rcases ht with ht | ht <;> exact step_lone_go (by simp [stepG, stepG.exec, hm, ht, hr])
theorem st_beginRound {r : Nat} {w' : World} (ht : mf.todo = .beginRound :: k) (hr : mf.roundOf = some r) (hb : (Instr.beginRound r).run P w = .ok () w') : step P (lone mf cs w) = .next (lone { mf with todo := k } cs w') :=
  step_lone_go (by simp [stepG, stepG.exec, stepG.apply, hm, ht, hr, hb, Frame.finish])
end steps

theorem st_value {mf : Frame} {cs : List Frame} {w w' : World} {s : Sem Next} {V : Value} (hr : s.run P w = .ok (.value V) w') :
    (stepG.apply P true mf cs none s w).bare = .go { frame := mf.finish V, callers := cs, status := .running, dying := none } w' := by simp [stepG.apply, hr]
theorem st_skipped {mf : Frame} {cs : List Frame} {w w' : World} {s : Sem Next} (hr : s.run P w = .ok .skip w') :
    (stepG.apply P true mf cs none s w).bare = .go { frame := mf.finish undef, callers := cs, status := .running, dying := none } w' := by simp [stepG.apply, hr]
end
end Go.Shd
