/- Runs with unknowns: code and calls are sound; memory that came in; what a run says of the machine's own call. -/
import Derived.Test.YtpdhahkeghblmaaGreatDoorSym2
import Derived.ChangeArms
import Derived.SizedLaws
import Derived.Below
set_option linter.unusedSimpArgs false
set_option linter.unusedVariables false
/- Loops with unknowns: behind a round the head is met again; what code comes to. -/
namespace Go.Sym
open Go Go.Shd
noncomputable section
section
variable {P : Program} {G : Globals} {KT : KTab} {σ σ' : List AV} {β β' : List Nat} {S S' : Sy} {ft ft' : T AV} {st st' : St}

theorem keptS_true {tm0 tm : T SV} : ∀ {l : List Tmp}, keptS tm0 tm l = true → ∀ t ∈ l, ∀ v, tm0.get (key t) = some v → tm.get (key t) = some v
  | [], _, t, ht, _, _ => by cases ht
  | t :: l, h, t', ht, v, hv => by
    unfold keptS at h
    cases h0 : tm0.get (key t) with
    | none =>
      rw [h0] at h
      rcases List.mem_cons.1 ht with rfl | ht
      · rw [h0] at hv; cases hv
      · exact keptS_true h t' ht v hv
    | some w =>
      rw [h0] at h
      simp only at h
      split at h
      case h_2 => cases h
      rename_i w' hw
      split at h
      case h_2 => cases h
      rename_i hb
      have := SV.beq_eq hb
      subst this
      rcases List.mem_cons.1 ht with rfl | ht
      · rw [h0] at hv; cases hv; exact hw
      · exact keptS_true h t' ht v hv

theorem hadS_true {tm0 tm : T SV} (hT : TR G KT σ β tm ft) : ∀ {l : List Tmp}, hadS tm0 tm l = true → ∀ t ∈ l, KindOk tm0 ft t
  | [], _, t, ht => by cases ht
  | t :: l, h, t', ht => by
    unfold hadS at h
    split at h
    · rename_i k e k' e' h0 h1
      split at h
      case h_2 => cases h
      rename_i hk
      have hk := of_decide_eq_true hk
      subst hk
      rcases List.mem_cons.1 ht with rfl | ht
      · obtain ⟨x, q1, n, _, rfl⟩ := hT _ _ h1
        refine ⟨fun k2 e2 h2 => ?_, fun f h2 => ?_⟩
        · rw [h0] at h2; cases h2; exact ⟨n, q1⟩
        · rw [h0] at h2; cases h2
      · exact hadS_true hT h t' ht
    · rename_i f f' h0 h1
      rcases List.mem_cons.1 ht with rfl | ht
      · obtain ⟨x, q1, n, _, rfl⟩ := hT _ _ h1
        refine ⟨fun k2 e2 h2 => ?_, fun f h2 => ?_⟩
        · rw [h0] at h2; cases h2
        · exact ⟨n, q1⟩
      · exact hadS_true hT h t' ht
    · cases h

theorem kindsS_KO : ∀ {cs cs' : List SV} {xs : List AV}, kindsS cs cs' = true → RSs G KT σ β cs' xs → KO cs xs
  | [], [], xs, _, h => h
  | .int k e :: l, .int k' e' :: m, xs, h, hr => by
    unfold kindsS at h
    split at h
    case h_2 => cases h
    rename_i hk
    have hk := of_decide_eq_true hk
    subst hk
    obtain ⟨y, m', rfl, ⟨z, _, rfl⟩, h2⟩ := hr
    exact ⟨z, m', rfl, kindsS_KO h h2⟩
  | [], _ :: _, _, h, _ => by cases h
  | .int _ _ :: _, [], _, h, _ => by cases h
  | .int _ _ :: _, .lit _ :: _, _, h, _ => by cases h
  | .int _ _ :: _, .bool _ :: _, _, h, _ => by cases h
  | .int _ _ :: _, .str _ :: _, _, h, _ => by cases h
  | .int _ _ :: _, .sl _ _ :: _, _, h, _ => by cases h
  | .int _ _ :: _, .sub _ _ _ :: _, _, h, _ => by cases h
  | .int _ _ :: _, .em _ :: _, _, h, _ => by cases h
  | .int _ _ :: _, .cpy _ _ _ :: _, _, h, _ => by cases h
  | .int _ _ :: _, .ptr _ _ :: _, _, h, _ => by cases h
  | .int _ _ :: _, .mp _ _ _ _ :: _, _, h, _ => by cases h
  | .int _ _ :: _, .cp _ _ _ _ :: _, _, h, _ => by cases h
  | .int _ _ :: _, .agg _ :: _, _, h, _ => by cases h
  | .int _ _ :: _, .tup _ :: _, _, h, _ => by cases h
  | .int _ _ :: _, .gd _ _ :: _, _, h, _ => by cases h
  | .lit _ :: _, _, _, h, _ => by cases h
  | .bool _ :: _, _, _, h, _ => by cases h
  | .str _ :: _, _, _, h, _ => by cases h
  | .sl _ _ :: _, _, _, h, _ => by cases h
  | .sub _ _ _ :: _, _, _, h, _ => by cases h
  | .em _ :: _, _, _, h, _ => by cases h
  | .cpy _ _ _ :: _, _, _, h, _ => by cases h
  | .ptr _ _ :: _, _, _, h, _ => by cases h
  | .mp _ _ _ _ :: _, _, _, h, _ => by cases h
  | .cp _ _ _ _ :: _, _, _, h, _ => by cases h
  | .agg _ :: _, _, _, h, _ => by cases h
  | .tup _ :: _, _, _, h, _ => by cases h
  | .gd _ _ :: _, _, _, h, _ => by cases h

theorem blkS_true {tm0 : T SV} {hp0 hp : T SB} : ∀ {l : List Tmp}, blkS tm0 hp0 hp l = true → ∀ b ∈ blkNums tm0 l, ∃ e cs cs', hp0.get (key b) = some (.cells e cs) ∧ hp.get (key b) = some (.cells e cs') ∧ kindsS cs cs' = true
  | [], _, b, hb => by cases hb
  | t :: l, h, b', hb => by
    unfold blkS at h
    split at h
    case h_2 => cases h
    rename_i b o ht
    split at h
    case h_2 => cases h
    rename_i e cs e' cs' h1 h2
    split at h
    case h_2 => cases h
    rename_i he hk
    have he := Nat.eq_of_beq_eq_true he
    subst he
    simp only [blkNums, ht] at hb
    rcases List.mem_cons.1 hb with rfl | hb
    · exact ⟨e, cs, cs', h1, h2, hk⟩
    · exact blkS_true h b' hb

theorem memN_iff {n : Nat} : ∀ {l : List Nat}, memN n l = true ↔ n ∈ l
  | [] => by simp [memN]
  | m :: l => by
    unfold memN
    cases h : Nat.beq n m with
    | true => simp [Nat.eq_of_beq_eq_true h]
    | false =>
      have : n ≠ m := fun e => by rw [e, Nat.beq_refl] at h; cases h
      simp [this, memN_iff]

theorem hpSameBut_true {bs : List Nat} {h h' : T SB} : ∀ {n : Nat}, hpSameBut bs h h' n = true → ∀ b < n, b ∉ bs → ∀ a, h.get (key b) = some a → h'.get (key b) = some a
  | 0, _, b, hb, _, _, _ => absurd hb (Nat.not_lt_zero _)
  | n + 1, hs, b, hb, hm, a, ha => by
    unfold hpSameBut at hs
    split at hs
    · rename_i hn
      have hn := memN_iff.1 hn
      by_cases e : b = n
      · subst e; exact absurd hn hm
      · exact hpSameBut_true hs b (by omega) hm a ha
    · split at hs
      · rename_i a1 h1
        split at hs
        case h_2 => cases hs
        rename_i b1 h2
        split at hs
        case h_2 => cases hs
        rename_i hq
        have hq := SB.beq_eq hq
        subst hq
        by_cases e : b = n
        · subst e; rw [h1] at ha; cases ha; exact h2
        · exact hpSameBut_true hs b (by omega) hm a ha
      · rename_i h1
        split at hs
        case h_2 => cases hs
        by_cases e : b = n
        · subst e; rw [h1] at ha; cases ha
        · exact hpSameBut_true hs b (by omega) hm a ha

theorem entry_head {h : LoopHint} (hH : Holds G KT σ β S ft st) {al : List (E × E × E)} {z : Nat} (hc : ft.get (key h.cnt) = some (.int .i64 (Int.ofNat z))) (hz : al ≠ [] → z = 0) : HeadOk G KT h S σ β al ft st z where
  keep t _ s hs := hH.tr t s hs
  cnt := hc
  hav t _ := ⟨fun k e he => by obtain ⟨x, q1, n, _, rfl⟩ := hH.tr _ _ he; exact ⟨n, q1⟩, fun f hf => by obtain ⟨x, q1, n, _, rfl⟩ := hH.tr _ _ hf; exact ⟨n, q1⟩⟩
  hx := ⟨hH.hr.len, hH.hr.grps, hH.hr.lt, fun b sb hb => .inr (hH.hr.blk b sb hb), hH.hr.inj⟩
  met p hp a H _ _ j hj := by
    have := hz (fun e => by rw [e] at hp; cases hp)
    subst this
    have : Int.ofNat 0 = 0 := rfl
    omega

theorem BRel.back (hs : Ext σ σ') (hb : ExtN β β') {id : Nat} {sb : SB} (h0 : BRel G KT σ β st id sb) (h : BRel G KT σ' β' st' id sb) : BRel G KT σ β st' id sb := by
  cases sb with
  | cells e l =>
    obtain ⟨cs0, _, q⟩ := h0
    obtain ⟨cs, h1, h2⟩ := h
    exact ⟨cs, h1, RSs.back hs hb q h2⟩
  | copy e =>
    obtain ⟨_, _, _, _, y0, _, _, q1, _⟩ := h0
    obtain ⟨cs, t, g, cap, y, n, h1, h2, h3⟩ := h
    have := ev_back hs q1 h2
    subst this
    exact ⟨cs, t, g, cap, _, n, h1, q1, h3⟩

theorem back_head {h : LoopHint} {B : E} {al : List (E × E × E)} {z vB : Nat} (hE : Holds G KT σ β S ft st) (hB : ev G σ B = some (.int .i64 (Int.ofNat vB))) (hBl : vB ≤ 4611686018427387904)
    (hal : ∀ p ∈ al, p.2.1 = .v S.nv ∧ (∃ a, ev G σ p.1 = some a) ∧ ∃ v : Nat, ev G σ p.2.2 = some (.int .i64 (Int.ofNat v)))
    (hH : Holds G KT σ' β' S' ft' st') (hs : Ext σ σ') (hb : ExtN β β') (hz : σ'[S.nv]? = some (.int .i64 (Int.ofNat z))) (hm : Met G σ al (Int.ofNat z)) (h1 : backS h S B (.v S.nv) al S' = true) :
    z < vB ∧ HeadOk G KT h S σ β al ft' st' (z + 1) := by
  unfold backS at h1
  split at h1
  case h_1 => cases h1
  rename_i hkept
  split at h1
  case h_1 => cases h1
  rename_i hhad
  split at h1
  case h_1 => cases h1
  rename_i hblk
  split at h1
  case h_1 => cases h1
  rename_i hsame
  split at h1
  case h_2 => cases h1
  rename_i t c' hcnt
  split at h1
  case h_1 => cases h1
  rename_i hc'
  have hc' := E.beq_eq hc'
  subst hc'
  split at h1
  case h_1 => cases h1
  rename_i hlt
  have hlt := hH.fx.lt _ (pairIn_mem hlt)
  obtain ⟨x, y, q1, q2, q3⟩ := hlt
  have hzi : iv G σ' (.v S.nv) = some (Int.ofNat z) := by unfold iv ev; rw [hz]
  have hBi : iv G σ' B = some (Int.ofNat vB) := by unfold iv; rw [ev_ext hs hB]
  rw [hzi] at q1; cases q1
  rw [hBi] at q2; cases q2
  have hzv : z < vB := by have : (z : Int) < (vB : Int) := q3; omega
  refine ⟨hzv, ?_, ?_, hadS_true hH.tr hhad, ⟨hE.hr.len, hH.hr.grps, fun id hid => ?_, fun b sb hb0 => ?_, hE.hr.inj⟩, ?_⟩
  · intro t ht s hs0
    have := keptS_true hkept t ht s hs0
    obtain ⟨x0, _, r1⟩ := hE.tr _ _ hs0
    obtain ⟨x, r2, r3⟩ := hH.tr _ _ this
    exact ⟨x, r2, RS.back hs hb r1 r3⟩
  · obtain ⟨x, r1, n, r2, rfl⟩ := hH.tr _ _ hcnt
    have := add_one (v := (vB : Int)) (Int.natCast_nonneg z) (by omega) (by omega) r2 hz
    rw [r1, this]
    rfl
  · obtain ⟨τ, rfl⟩ := hb
    exact hH.hr.lt id (List.mem_append_left _ hid)
  · obtain ⟨id0, r1, r2⟩ := hE.hr.blk b sb hb0
    have hbl : b < S.nb := by rw [← hE.hr.len]; exact (List.getElem?_eq_some_iff.1 r1).1
    by_cases hm : b ∈ blkNums S.tm h.blk
    · left
      obtain ⟨e, cs, cs', u1, u2, u3⟩ := blkS_true hblk b hm
      rw [hb0] at u1; cases u1
      obtain ⟨id, w1, xs, w2, w3⟩ := hH.hr.blk _ _ u2
      have := get_back hb r1 w1
      subst this
      exact ⟨hm, e, cs, _, xs, rfl, r1, w2, kindsS_KO u3 w3⟩
    · right
      have u := hpSameBut_true hsame b hbl hm sb hb0
      obtain ⟨id, w1, w2⟩ := hH.hr.blk _ _ u
      have := get_back hb r1 w1
      subst this
      exact ⟨_, r1, r2.back hs hb w2⟩
  · exact Met.step hs hH.fx hal ⟨_, hz⟩ (fun p hp => hp) h1 hm

/-! ### Calls that are looked into once -/
theorem HR.keep (hE : HR G KT σ β S.hp S.nb st) (hH : HR G KT σ' β' S'.hp S'.nb st') (hs : Ext σ σ') (hb : ExtN β β') (hsame : hpSameBut [] S.hp S'.hp S.nb = true) : HR G KT σ β S.hp S.nb st' := by
  refine ⟨hE.len, hH.grps, fun id hid => ?_, fun b sb hb0 => ?_, hE.inj⟩
  · obtain ⟨τ, rfl⟩ := hb
    exact hH.lt id (List.mem_append_left _ hid)
  · obtain ⟨id0, r1, r2⟩ := hE.blk b sb hb0
    have hbl : b < S.nb := by rw [← hE.len]; exact (List.getElem?_eq_some_iff.1 r1).1
    have u := hpSameBut_true hsame b hbl (by simp) sb hb0
    obtain ⟨id, w1, w2⟩ := hH.blk _ _ u
    have := get_back hb r1 w1
    subst this
    exact ⟨_, r1, r2.back hs hb w2⟩

mutual
theorem freshS_true : ∀ {sh v : SV} {x : AV} {nv : Nat} {K : SV → Nat → Bool} {τ0 : List AV}, shapeOk sh v = true → RS G KT σ' β' v x → freshS sh nv K = true → τ0.length = nv →
    ∃ τ sv, K sv (nv + τ.length) = true ∧ RS G KT (τ0 ++ τ) β sv x
  | .int k e, v, x, nv, K, τ0, h, hr, hk, hn => by
    cases v <;> simp only [shapeOk, Bool.false_eq_true] at h
    have h := of_decide_eq_true h
    subst h
    obtain ⟨z, _, rfl⟩ := hr
    simp only [freshS, natK_eq] at hk
    refine ⟨[.int k z], _, hk, z, ?_, rfl⟩
    show (τ0 ++ [AV.int k z])[nv]? = _
    rw [← hn]; simp
  | .bool f, v, x, nv, K, τ0, h, hr, hk, hn => by
    cases v <;> simp only [shapeOk, Bool.false_eq_true] at h
    obtain ⟨b, _, rfl⟩ := hr
    simp only [freshS, natK_eq] at hk
    refine ⟨[.lit (.bool b)], _, hk, b, ?_, rfl⟩
    have : ev G (τ0 ++ [AV.lit (Value.bool b)]) (.v nv) = some (.lit (.bool b)) := by
      show (τ0 ++ [AV.lit (Value.bool b)])[nv]? = _
      rw [← hn]; simp
    simp only [evF, this]
  | .tup l, v, x, nv, K, τ0, h, hr, hk, hn => by
    cases v <;> simp only [shapeOk, Bool.false_eq_true] at h
    obtain ⟨xs, rfl, hr⟩ := hr
    simp only [freshS] at hk
    obtain ⟨τ, svs, h1, h2⟩ := freshL_true h hr hk hn
    exact ⟨τ, _, h1, xs, rfl, h2⟩
  | .agg l, v, x, nv, K, τ0, h, hr, hk, hn => by
    cases v <;> simp only [shapeOk, Bool.false_eq_true] at h
    obtain ⟨xs, rfl, hr⟩ := hr
    simp only [freshS] at hk
    obtain ⟨τ, svs, h1, h2⟩ := freshL_true h hr hk hn
    exact ⟨τ, _, h1, xs, rfl, h2⟩
  | .lit _, _, _, _, _, _, h, _, _, _ => by cases h
  | .str _, _, _, _, _, _, h, _, _, _ => by cases h
  | .sl _ _, _, _, _, _, _, h, _, _, _ => by cases h
  | .sub _ _ _, _, _, _, _, _, h, _, _, _ => by cases h
  | .em _, _, _, _, _, _, h, _, _, _ => by cases h
  | .cpy _ _ _, _, _, _, _, _, h, _, _, _ => by cases h
  | .ptr _ _, _, _, _, _, _, h, _, _, _ => by cases h
  | .mp _ _ _ _, _, _, _, _, _, h, _, _, _ => by cases h
  | .cp _ _ _ _, _, _, _, _, _, h, _, _, _ => by cases h
  | .gd _ _, _, _, _, _, _, h, _, _, _ => by cases h
theorem freshL_true : ∀ {sh v : List SV} {x : List AV} {nv : Nat} {K : List SV → Nat → Bool} {τ0 : List AV}, shapesOk sh v = true → RSs G KT σ' β' v x → freshL sh nv K = true → τ0.length = nv →
    ∃ τ sv, K sv (nv + τ.length) = true ∧ RSs G KT (τ0 ++ τ) β sv x
  | [], v, x, nv, K, τ0, h, hr, hk, hn => by
    cases v with
    | nil =>
      simp only [RSs] at hr
      subst hr
      exact ⟨[], [], hk, rfl⟩
    | cons a l => cases h
  | a :: l, v, x, nv, K, τ0, h, hr, hk, hn => by
    cases v with
    | nil => cases h
    | cons b m =>
      simp only [shapesOk] at h
      split at h
      case h_2 => cases h
      rename_i hab
      obtain ⟨y, xs, rfl, h1, h2⟩ := hr
      simp only [freshL] at hk
      obtain ⟨τ, sv, q1, q2⟩ := freshS_true hab h1 hk hn
      obtain ⟨τ', svs, q3, q4⟩ := freshL_true (τ0 := τ0 ++ τ) h h2 q1 (by simp [hn])
      refine ⟨τ ++ τ', sv :: svs, by rw [List.length_append, ← Nat.add_assoc]; exact q3, y, xs, rfl, ?_, ?_⟩
      · rw [← List.append_assoc]; exact RS.ext ⟨τ', rfl⟩ (ExtN.refl _) _ _ q2
      · rw [← List.append_assoc]; exact q4
end

theorem callJ_ok {J : FuncId → Option SV} {call : CallS} (hc : CallOk P G KT call) : CallOk P G KT (callJ J call) := by
  intro g args S K h σ β st xs hf hr hn ha
  unfold callJ at h
  split at h
  · exact hc h hf hr hn ha
  · rename_i sh hJ
    obtain ⟨tm, hp, nb, nv, fx⟩ := S
    simp only at h
    split at h
    case h_2 => cases h
    rename_i h1
    obtain ⟨sv, S', σ', β', st', v, r, q1, q2, q3, q4, q5, q6, q7, N, q8⟩ := hc h1 hf hr hn ha
    try dsimp only at q1
    split at q1
    case h_2 => cases q1
    rename_i hsh
    obtain ⟨τ, sv', u1, u2⟩ := freshS_true (β := β) (τ0 := σ) hsh q2 h hn
    have hk := HR.keep (S := ⟨tm, hp, nb, nv, fx⟩) hr q4 q6 q7 q1
    exact ⟨sv', _, σ ++ τ, β, st', v, r, u1, u2, hf.ext ⟨τ, rfl⟩, hk.ext ⟨τ, rfl⟩, by simp [hn], ⟨τ, rfl⟩, ExtN.refl _, N, q8⟩

/-! ### What code comes to -/
def Run1 (P : Program) (G : Globals) (f : FuncId) (sz : Nat) (td : List Item) (ft : T AV) (st : St) (td' : List Item) (ft' : T AV) (st' : St) : Prop :=
  ∃ N, ∀ (up : Option AV) (dfd recd : Bool) (K : AEnd → St → Bool) (n1 : Nat), (∀ n, n1 ≤ n → run P G n ⟨f, ft', sz, td', [], none, up, dfd, recd⟩ st' K = true) →
    ∀ n, n1 + N ≤ n → run P G n ⟨f, ft, sz, td, [], none, up, dfd, recd⟩ st K = true
def Rets (P : Program) (G : Globals) (f : FuncId) (sz : Nat) (td : List Item) (ft : T AV) (st : St) (ft' : T AV) (st' : St) : Prop :=
  ∃ N, ∀ (up : Option AV) (dfd recd : Bool) (K : AEnd → St → Bool), unwindK P G (fun _ _ _ => false) f ft' dfd recd none [] st' K = true →
    ∀ n, N ≤ n → run P G n ⟨f, ft, sz, td, [], none, up, dfd, recd⟩ st K = true

theorem Run1.refl {f : FuncId} {sz : Nat} {td : List Item} : Run1 P G f sz td ft st td ft st := ⟨0, fun _ _ _ _ _ h n hn => h n hn⟩
theorem Run1.trans {f : FuncId} {sz : Nat} {a b c : List Item} {ft1 : T AV} {st1 : St} (h : Run1 P G f sz a ft st b ft' st') (k : Run1 P G f sz b ft' st' c ft1 st1) : Run1 P G f sz a ft st c ft1 st1 := by
  obtain ⟨N, h⟩ := h; obtain ⟨M, k⟩ := k
  exact ⟨M + N, fun up dfd recd K n1 hr n hn => h up dfd recd K (n1 + M) (k up dfd recd K n1 hr) n (by omega)⟩
theorem Run1.rets {f : FuncId} {sz : Nat} {a b : List Item} {ft1 : T AV} {st1 : St} (h : Run1 P G f sz a ft st b ft' st') (k : Rets P G f sz b ft' st' ft1 st1) : Rets P G f sz a ft st ft1 st1 := by
  obtain ⟨N, h⟩ := h; obtain ⟨M, k⟩ := k
  exact ⟨M + N, fun up dfd recd K hr n hn => h up dfd recd K M (k up dfd recd K hr) n (by omega)⟩
theorem Run1.step {f : FuncId} {sz : Nat} {a b : List Item} (h : ∀ n up dfd recd K, run P G (n + 1) ⟨f, ft, sz, a, [], none, up, dfd, recd⟩ st K = run P G n ⟨f, ft', sz, b, [], none, up, dfd, recd⟩ st' K) : Run1 P G f sz a ft st b ft' st' :=
  ⟨1, fun up dfd recd K n1 hr n hn => by
    obtain ⟨m, rfl⟩ : ∃ m, n = m + 1 := ⟨n - 1, by omega⟩
    rw [h]; exact hr m (by omega)⟩

def IG (P : Program) (G : Globals) (KT : KTab) (f : FuncId) (sz : Nat) (pre : List Item) (σ : List AV) (β : List Nat) (ft : T AV) (st : St) (kN : Sy → Bool) (kX : Nat → Sy → Bool) (kR : Sy → Bool) : Prop :=
  ∃ S' σ' β' ft' st', Holds G KT σ' β' S' ft' st' ∧ Ext σ σ' ∧ ExtN β β' ∧
    ((kN S' = true ∧ ∀ k, Run1 P G f sz (pre ++ k) ft st k ft' st') ∨
     (∃ id, kX id S' = true ∧ ∀ k k', exitTo id k = some k' → Run1 P G f sz (pre ++ k) ft st k' ft' st') ∨
     (kR S' = true ∧ ∀ k, Rets P G f sz (pre ++ k) ft st ft' st'))

theorem IG.pre {f : FuncId} {sz : Nat} {a b : List Item} {kN : Sy → Bool} {kX : Nat → Sy → Bool} {kR : Sy → Bool} (h : IG P G KT f sz b σ β ft st kN kX kR) (hp : ∀ k, Run1 P G f sz (a ++ k) ft st (b ++ k) ft st) : IG P G KT f sz a σ β ft st kN kX kR := by
  obtain ⟨S', σ', β', ft', st', h1, h2, h3, h4⟩ := h
  refine ⟨S', σ', β', ft', st', h1, h2, h3, ?_⟩
  rcases h4 with ⟨q1, q2⟩ | ⟨id, q1, q2⟩ | ⟨q1, q2⟩
  · exact .inl ⟨q1, fun k => (hp k).trans (q2 k)⟩
  · exact .inr (.inl ⟨id, q1, fun k k' hk => (hp k).trans (q2 k k' hk)⟩)
  · exact .inr (.inr ⟨q1, fun k => (hp k).rets (q2 k)⟩)

/-- First one part, then the other. -/
theorem IG.bind {f : FuncId} {sz : Nat} {a b : List Item} {kM kN : Sy → Bool} {kX : Nat → Sy → Bool} {kR : Sy → Bool} (h : IG P G KT f sz a σ β ft st kM kX kR) (he : ∀ id k, exitTo id (b ++ k) = exitTo id k)
    (h2 : ∀ S' σ' β' ft' st', Holds G KT σ' β' S' ft' st' → Ext σ σ' → ExtN β β' → kM S' = true → IG P G KT f sz b σ' β' ft' st' kN kX kR) : IG P G KT f sz (a ++ b) σ β ft st kN kX kR := by
  obtain ⟨S1, σ1, β1, ft1, st1, h1, e1, e2, h4⟩ := h
  rcases h4 with ⟨q1, q2⟩ | ⟨id, q1, q2⟩ | ⟨q1, q2⟩
  · obtain ⟨S2, σ2, β2, ft2, st2, r1, r2, r3, r4⟩ := h2 S1 σ1 β1 ft1 st1 h1 e1 e2 q1
    have go : ∀ k, Run1 P G f sz (a ++ b ++ k) ft st (b ++ k) ft1 st1 := fun k => by rw [List.append_assoc]; exact q2 (b ++ k)
    refine ⟨S2, σ2, β2, ft2, st2, r1, e1.trans r2, e2.trans r3, ?_⟩
    rcases r4 with ⟨u1, u2⟩ | ⟨id, u1, u2⟩ | ⟨u1, u2⟩
    · exact .inl ⟨u1, fun k => (go k).trans (u2 k)⟩
    · exact .inr (.inl ⟨id, u1, fun k k' hk => (go k).trans (u2 k k' hk)⟩)
    · exact .inr (.inr ⟨u1, fun k => (go k).rets (u2 k)⟩)
  · exact ⟨S1, σ1, β1, ft1, st1, h1, e1, e2, .inr (.inl ⟨id, q1, fun k k' hk => by rw [List.append_assoc]; exact q2 (b ++ k) k' (by rw [he]; exact hk)⟩)⟩
  · exact ⟨S1, σ1, β1, ft1, st1, h1, e1, e2, .inr (.inr ⟨q1, fun k => by rw [List.append_assoc]; exact q2 (b ++ k)⟩)⟩

theorem exitTo_code (id : Nat) (c : Code) (k : List Item) : exitTo id ([.code c] ++ k) = exitTo id k := rfl
theorem exitTo_loop (id : Nat) (c : Code) (k : List Item) : exitTo id ([.inLoop c] ++ k) = exitTo id k := rfl

/-- A loop, from its head on. -/
theorem loop_head {f : FuncId} {sz : Nat} {b : Code} {h : LoopHint} {body : Sy → (Sy → Bool) → Bool} {kN : Sy → Bool} {kX : Nat → Sy → Bool} {kR : Sy → Bool} {ft0 : T AV} {st0 : St}
    (hbody : ∀ {S : Sy} {back : Sy → Bool} {σ : List AV} {β : List Nat} {ft : T AV} {st : St}, Holds G KT σ β S ft st → body S back = true → IG P G KT f sz [.code b] σ β ft st back kX kR)
    (hE : Holds G KT σ β S ft0 st0) {B : E} {al : List (E × E × E)} {vB : Nat} (hB : ev G σ B = some (.int .i64 (Int.ofNat vB))) (hBl : vB ≤ 4611686018427387904)
    (hal : ∀ p ∈ al, p.2.1 = .v S.nv ∧ (∃ a, ev G σ p.1 = some a) ∧ ∃ v : Nat, ev G σ p.2.2 = some (.int .i64 (Int.ofNat v)))
    {r : T SV} {nv1 nv2 : Nat} {hp' : T SB} (h1 : havR S.tm h.hav (T.set (some (.int .i64 (.v S.nv))) (key h.cnt) (keepR S.tm h.keep .leaf)) (S.nv + 1) = some (r, nv1)) (h2 : havBR S.tm h.blk S.hp nv1 = some (hp', nv2))
    (hb : body ⟨r, hp', S.nb, nv2, ⟨S.fx.lt, (.int .i64 0, .v S.nv) :: S.fx.le, S.fx.eq, S.fx.ne, S.fx.bl, S.fx.cx, al ++ S.fx.al⟩⟩ (fun S' => backS h S B (.v S.nv) al S') = true) :
    ∀ (m : Nat) {z : Nat} {ft : T AV} {st : St}, vB - z ≤ m → HeadOk G KT h S σ β al ft st z → IG P G KT f sz [.code b, .inLoop b] σ β ft st kN kX kR := by
  intro m
  induction m with
  | zero =>
    intro z ft st hm hh
    obtain ⟨τ, hH⟩ := head_holds hE.fx hE.nv hal hh h1 h2
    have e1 : Ext σ (σ ++ ([AV.int .i64 (Int.ofNat z)] ++ τ)) := ⟨_, rfl⟩
    have := (hbody hH hb).bind (b := [.inLoop b]) (kN := kN) (fun id k => rfl) (fun S' σ' β' ft' st' q1 q2 q3 q4 => by
      have hz : σ'[S.nv]? = some (.int .i64 (Int.ofNat z)) := q2.get (by rw [← hE.nv]; simp)
      have := (back_head hE hB hBl hal q1 (e1.trans q2) q3 hz hh.met q4).1
      omega)
    obtain ⟨S', σ', β', ft', st', q1, q2, q3, q4⟩ := this
    exact ⟨S', σ', β', ft', st', q1, e1.trans q2, q3, q4⟩
  | succ m ih =>
    intro z ft st hm hh
    obtain ⟨τ, hH⟩ := head_holds hE.fx hE.nv hal hh h1 h2
    have e1 : Ext σ (σ ++ ([AV.int .i64 (Int.ofNat z)] ++ τ)) := ⟨_, rfl⟩
    -- one round; then either the head again, or an end
    obtain ⟨S1, σ1, β1, ft1, st1, q1, q2, q3, q4⟩ := hbody hH hb
    rcases q4 with ⟨u1, u2⟩ | ⟨id, u1, u2⟩ | ⟨u1, u2⟩
    · have hz : σ1[S.nv]? = some (.int .i64 (Int.ofNat z)) := q2.get (by rw [← hE.nv]; simp)
      obtain ⟨hlt, hh'⟩ := back_head hE hB hBl hal q1 (e1.trans q2) q3 hz hh.met u1
      refine (ih (z := z + 1) (by omega) hh').imp ?_
      rintro S2 ⟨σ2, β2, ft2, st2, w1, w2, w3, w4⟩
      refine ⟨σ2, β2, ft2, st2, w1, w2, w3, ?_⟩
      have go : ∀ k, Run1 P G f sz ([.code b, .inLoop b] ++ k) ft st ([.code b, .inLoop b] ++ k) ft1 st1 := fun k => (u2 (.inLoop b :: k)).trans (Run1.step fun n up dfd recd K => rfl)
      rcases w4 with ⟨v1, v2⟩ | ⟨id, v1, v2⟩ | ⟨v1, v2⟩
      · exact .inl ⟨v1, fun k => (go k).trans (v2 k)⟩
      · exact .inr (.inl ⟨id, v1, fun k k' hk => (go k).trans (v2 k k' hk)⟩)
      · exact .inr (.inr ⟨v1, fun k => (go k).rets (v2 k)⟩)
    · exact ⟨S1, σ1, β1, ft1, st1, q1, e1.trans q2, q3, .inr (.inl ⟨id, u1, fun k k' hk => u2 (.inLoop b :: k) k' hk⟩)⟩
    · exact ⟨S1, σ1, β1, ft1, st1, q1, e1.trans q2, q3, .inr (.inr ⟨u1, fun k => u2 (.inLoop b :: k)⟩)⟩

theorem sLoop_true {f : FuncId} {sz : Nat} {b : Code} {h : LoopHint} {body : Sy → (Sy → Bool) → Bool} {kN : Sy → Bool} {kX : Nat → Sy → Bool} {kR : Sy → Bool}
    (hbody : ∀ {S : Sy} {back : Sy → Bool} {σ : List AV} {β : List Nat} {ft : T AV} {st : St}, Holds G KT σ β S ft st → body S back = true → IG P G KT f sz [.code b] σ β ft st back kX kR)
    (hH : Holds G KT σ β S ft st) (hl : sLoop KT h S body = true) : IG P G KT f sz [.code (.loop b)] σ β ft st kN kX kR := by
  obtain ⟨tm, hp, nb, nv, fx⟩ := S
  unfold sLoop at hl
  simp only at hl
  split at hl
  case h_2 => cases hl
  rename_i e0 hcnt
  split at hl
  case h_1 => cases hl
  rename_i hnn
  split at hl
  case h_1 => cases hl
  rename_i B hbd
  split at hl
  case h_1 => cases hl
  rename_i hall
  rw [natK_eq, keepS_eq, T.setK_eq] at hl
  obtain ⟨r, nv1, h1, hl⟩ := havS_true hl
  obtain ⟨hp', nv2, h2, hl⟩ := havBlk_true hl
  obtain ⟨al, h3, hl⟩ := allS_true hl
  obtain ⟨lt, le, eq, ne, bl, cx, al0⟩ := fx
  simp only at hl
  obtain ⟨x, q1, z, q2, rfl⟩ := hH.tr _ _ hcnt
  have h0 := nonneg_ok hH.fx (iv_of q2) hnn
  obtain ⟨z, rfl⟩ := nat_of_nonneg h0
  obtain ⟨vB, hB, hBl⟩ := boundOf_ok hH hbd
  have hal := allR_ok hH h3
  have hz : al ≠ [] → z = 0 := by
    intro hne
    cases hha : h.all with
    | nil => rw [hha] at h3; cases h3; exact absurd rfl hne
    | cons a l =>
      rw [hha] at hall
      simp only at hall
      split at hall
      · rename_i k n
        have := intBeq_iff.1 hall
        subst this
        simp only [ev] at q2
        cases q2
        rfl
      · cases hall
  have := loop_head (kN := kN) hbody hH hB hBl hal h1 h2 hl (vB - z) (Nat.le_refl _) (entry_head hH q1 hz)
  exact this.pre fun k => Run1.step fun n up dfd recd K => rfl
end
end
end Go.Sym
/- Code with unknowns is sound; calls; a function at arguments of its types. -/
namespace Go.Sym
open Go Go.Shd
noncomputable section
section
variable {P : Program} {G : Globals} {KT : KTab} {J : FuncId → Option SV} {H : FuncId → Nat → Option LoopHint}

theorem args_both {σ : List AV} {β : List Nat} : ∀ {l : List SV} {xs : List AV} {i : Nat} {tm : T SV} {ft : T AV}, RSs G KT σ β l xs → TR G KT σ β tm ft →
    ∃ tm' ft', (∀ K : T SV → Bool, argsS i l tm K = K tm') ∧ (∀ K : T AV → Bool, argsK i xs ft K = K ft') ∧ TR G KT σ β tm' ft'
  | [], xs, i, tm, ft, h, ht => by
    simp only [RSs] at h
    subst h
    exact ⟨tm, ft, fun _ => rfl, fun _ => rfl, ht⟩
  | v :: l, xs, i, tm, ft, h, ht => by
    obtain ⟨y, m, rfl, h1, h2⟩ := h
    have ht' : TR G KT σ β (T.set (some v) (key i) tm) (T.set (some y) (key i) ft) := by
      intro t s hs
      rw [T.get_set] at hs ⊢
      split at hs
      · rename_i e; cases hs; exact ⟨y, by rw [if_pos e], h1⟩
      · rename_i e; rw [if_neg e]; exact ht t s hs
    obtain ⟨tm', ft', q1, q2, q3⟩ := args_both (i := i + 1) h2 ht'
    refine ⟨tm', ft', fun K => ?_, fun K => ?_, q3⟩
    · simp only [argsS, T.setK_eq, natK_eq]; exact q1 K
    · show T.setK (some y) (key i) ft (fun tm => natK (Nat.succ i) fun i => argsK i m tm K) = _
      rw [T.setK_eq, natK_eq]; exact q2 K

theorem sRes_true {σ : List AV} {β : List Nat} {S : Sy} {ft : T AV} {st : St} (hH : Holds G KT σ β S ft st) : ∀ {l : List ResultVar} {K : List SV → Bool}, sRes P KT S l K = true →
    ∃ vs xs, K vs = true ∧ RSs G KT σ β vs xs ∧ ∀ K' : List AV → Bool, resK P G ft st l K' = K' xs
  | [], K, h => ⟨[], [], h, rfl, fun _ => rfl⟩
  | .tmp t :: l, K, h => by
    simp only [sRes] at h
    obtain ⟨s, x, h1, h2, h3⟩ := sEv_true hH.fx hH.tr h
    obtain ⟨vs, xs, q1, q2, q3⟩ := sRes_true hH h1
    exact ⟨_, _, q1, ⟨x, xs, rfl, h2, q2⟩, fun K' => by simp only [resK]; rw [h3, q3]⟩
  | .cell a t :: l, K, h => by
    simp only [sRes] at h
    obtain ⟨s, x, h1, h2, h3⟩ := sEv_true hH.fx hH.tr h
    obtain ⟨s', y, r1, r2, r3⟩ := sLoad_true hH.hr h2 h1
    obtain ⟨vs, xs, q1, q2, q3⟩ := sRes_true hH r1
    exact ⟨_, _, q1, ⟨y, xs, rfl, r2, q2⟩, fun K' => by simp only [resK]; rw [h3, r3, q3]⟩

/-- What a function's code comes to gives what a call comes to. -/
theorem ret_ok {g : FuncId} {fn : Func} (hfn : tfunc P g = some fn) {σ : List AV} {β : List Nat} {S : Sy} {ft : T AV} {st : St} (hH : Holds G KT σ β S ft st) {K : SV → Sy → Bool}
    (h : (sRes P KT S fn.results.toList fun l => match l with
      | [v] => K v S
      | l => K (.tup l) S) = true) :
    ∃ sv v, K sv S = true ∧ RS G KT σ β sv v ∧ ∀ (ih : Run) (dfd : Bool) (K' : AEnd → St → Bool), K' (.ret v false) st = true → unwindK P G ih g ft dfd false none [] st K' = true := by
  obtain ⟨vs, xs, h1, h2, h3⟩ := sRes_true hH h
  have un : ∀ (ih : Run) (dfd : Bool) (K' : AEnd → St → Bool), unwindK P G ih g ft dfd false none [] st K' = (fun xs : List AV => match xs with
      | [v] => K' (.ret v false) st
      | l => K' (.ret (.tup l) false) st) xs := by
    intro ih dfd K'
    simp only [unwindK, hfn]
    rw [h3]
    rcases xs with _ | ⟨x, _ | ⟨y, m⟩⟩ <;> rfl
  split at h1
  · rename_i v
    obtain ⟨x, m, rfl, r1, r2⟩ := h2
    simp only [RSs] at r2
    subst r2
    exact ⟨v, x, h1, r1, fun ih dfd K' hk => by rw [un]; exact hk⟩
  · rename_i l hne
    refine ⟨.tup vs, .tup xs, h1, ⟨xs, rfl, h2⟩, fun ih dfd K' hk => ?_⟩
    rw [un]
    cases xs with
    | nil => exact hk
    | cons x m => cases m with
      | nil =>
        have := h2.len
        cases vs with
        | nil => cases this
        | cons v l => cases l with
          | nil => exact absurd rfl (hne v)
          | cons w l => simp at this
      | cons y m => exact hk

theorem sCode_true : ∀ (n : Nat) {f : FuncId} {sz bid : Nat} {c : Code} {S : Sy} {kN : Sy → Bool} {kX : Nat → Sy → Bool} {kR : Sy → Bool} {σ : List AV} {β : List Nat} {ft : T AV} {st : St},
    Holds G KT σ β S ft st → sCode P KT J H n f sz bid c S kN kX kR = true → IG P G KT f sz [.code c] σ β ft st kN kX kR
  | 0, f, sz, bid, c, S, kN, kX, kR, σ, β, ft, st, hH, h => by cases h
  | n + 1, f, sz, bid, c, S, kN, kX, kR, σ, β, ft, st, hH, h => by
    have ih := @sCode_true n
    -- calls, one deeper
    have hcall : CallOk P G KT (fun g args S K => match tfunc P g with
        | some fn => match fn.body with
          | some c => argsS 0 args .leaf fun tm => lenK args 0 fun m => natK (Nat.add m (Nat.sub fn.ntmps m)) fun sz' => match S with
            | ⟨_, hp, nb, nv, fx⟩ =>
              (fun ret : Sy → Bool => sCode P KT J H n g sz' 0 c ⟨tm, hp, nb, nv, fx⟩ ret (fun _ _ => false) ret)
              fun S => sRes P KT S fn.results.toList fun l => match l with
                | [v] => K v S
                | l => K (.tup l) S
          | none => false
        | none => false) := by
      intro g args S K h σ β st xs hf hr hn ha
      dsimp only at h
      split at h
      case h_2 => cases h
      rename_i fn hfn
      split at h
      case h_2 => cases h
      rename_i c hc
      obtain ⟨tm', ft', q1, q2, q3⟩ := args_both (i := 0) ha (show TR G KT σ β .leaf .leaf from fun t s hs => by rw [leaf_get] at hs; cases hs)
      rw [q1, lenK_eq, natK_eq] at h
      obtain ⟨tm, hp, nb, nv, fx⟩ := S
      simp only at h
      have hH : Holds G KT σ β ⟨tm', hp, nb, nv, fx⟩ ft' st := ⟨hf, q3, hr, hn⟩
      obtain ⟨S1, σ1, β1, ft1, st1, r1, r2, r3, r4⟩ := ih hH h
      have done : ∀ {td : List Item}, Run1 P G g (0 + args.length + (fn.ntmps - (0 + args.length))) [.code c] ft' st [] ft1 st1 ∨ Rets P G g (0 + args.length + (fn.ntmps - (0 + args.length))) [.code c] ft' st ft1 st1 → td = [Item.code c] →
          (sRes P KT S1 fn.results.toList fun l => match l with
            | [v] => K v S1
            | l => K (.tup l) S1) = true →
          ∃ sv S' σ' β' st' v r, K sv S' = true ∧ RS G KT σ' β' sv v ∧ FxOk G σ' S'.fx ∧ HR G KT σ' β' S'.hp S'.nb st' ∧ σ'.length = S'.nv ∧ Ext σ σ' ∧ ExtN β β' ∧
            ∃ N, ∀ n, N ≤ n → ∀ K' : AEnd → St → Bool, K' (.ret v r) st' = true → enterK P g xs false none (fun gf => run P G n gf st K') = true := by
        intro td hrun _ hres
        obtain ⟨sv, v, u1, u2, u3⟩ := ret_ok hfn r1 hres
        have ent : ∀ n K', enterK P g xs false none (fun gf => run P G n gf st K') = run P G n ⟨g, ft', 0 + args.length + (fn.ntmps - (0 + args.length)), [.code c], [], none, none, false, false⟩ st K' := by
          intro n K'
          simp only [enterK, hfn, hc]
          rw [q2, lenK_eq, natK_eq, ha.len]
          rfl
        rcases hrun with ⟨N, hr⟩ | ⟨N, hr⟩
        · refine ⟨sv, S1, σ1, β1, st1, v, false, u1, u2, r1.fx, r1.hr, r1.nv, r2, r3, 1 + N, fun n hn K' hk => ?_⟩
          rw [ent]
          refine hr none false false K' 1 (fun m hm => ?_) n hn
          obtain ⟨m, rfl⟩ : ∃ k, m = k + 1 := ⟨m - 1, by omega⟩
          show exitK P G (run P G m) g ft1 [] none false false st1 none K' = true
          exact u3 (run P G m) false K' hk
        · refine ⟨sv, S1, σ1, β1, st1, v, false, u1, u2, r1.fx, r1.hr, r1.nv, r2, r3, N, fun n hn K' hk => ?_⟩
          rw [ent]
          exact hr none false false K' (u3 (fun _ _ _ => false) false K' hk) n hn
      rcases r4 with ⟨u1, u2⟩ | ⟨id, u1, u2⟩ | ⟨u1, u2⟩
      · exact done (.inl (u2 [])) rfl u1
      · cases u1
      · exact done (.inr (u2 [])) rfl u1
    have hcall : CallOk P G KT (callJ J _) := callJ_ok hcall
    unfold sCode at h
    split at h
    · exact ⟨S, σ, β, ft, st, hH, Ext.refl _, ExtN.refl _, .inl ⟨h, fun k => Run1.step fun n up dfd recd K => rfl⟩⟩
    · rename_i a b
      have := (ih hH h).bind (b := [.code b]) (fun id k => rfl) (fun S' σ' β' ft' st' q1 _ _ q4 => ih q1 q4)
      exact this.pre fun k => Run1.step fun n up dfd recd K => rfl
    · rename_i x a b
      obtain ⟨s, y, h1, h2, h3⟩ := sEv_true hH.fx hH.tr h
      obtain ⟨q, v, r1, r2, r3, _⟩ := boolS_true h2 h1
      subst r3
      have stepT : v = true → ∀ k, Run1 P G f sz ([.code (.cond x a b)] ++ k) ft st ([.code a] ++ k) ft st := fun hv k => Run1.step fun n up dfd recd K => by
        subst hv
        show evK ft x _ = _
        rw [h3]; rfl
      have stepF : v = false → ∀ k, Run1 P G f sz ([.code (.cond x a b)] ++ k) ft st ([.code b] ++ k) ft st := fun hv k => Run1.step fun n up dfd recd K => by
        subst hv
        show evK ft x _ = _
        rw [h3]; rfl
      split at r1
      · rename_i hk
        have := knownX_ok hH.fx hk r2
        exact (ih hH r1).pre (stepT this)
      · rename_i hk
        have := knownX_ok hH.fx hk r2
        exact (ih hH r1).pre (stepF this)
      · split at r1
        case h_2 => cases r1
        rename_i hT
        cases v with
        | true =>
          obtain ⟨S', u1, u2⟩ := assumeS_true hH r2 hT
          exact (ih u2 u1).pre (stepT rfl)
        | false =>
          obtain ⟨S', u1, u2⟩ := assumeS_true hH r2 r1
          exact (ih u2 u1).pre (stepF rfl)
    · rename_i id b
      obtain ⟨S', σ', β', ft', st', q1, q2, q3, q4⟩ := ih hH h
      have go : ∀ k, Run1 P G f sz ([.code (.block id b)] ++ k) ft st ([.code b] ++ (.inBlock id :: k)) ft st := fun k => Run1.step fun n up dfd recd K => rfl
      have out : ∀ k, Run1 P G f sz (.inBlock id :: k) ft' st' k ft' st' := fun k => Run1.step fun n up dfd recd K => rfl
      refine ⟨S', σ', β', ft', st', q1, q2, q3, ?_⟩
      rcases q4 with ⟨u1, u2⟩ | ⟨i, u1, u2⟩ | ⟨u1, u2⟩
      · exact .inl ⟨u1, fun k => ((go k).trans (u2 _)).trans (out k)⟩
      · dsimp only at u1
        split at u1
        · rename_i hi
          have hi := Nat.eq_of_beq_eq_true hi
          subst hi
          exact .inl ⟨u1, fun k => (go k).trans (u2 _ k (by simp [exitTo]))⟩
        · rename_i hi
          have hne : (id == i) = false := by
            cases hb : id == i with
            | false => rfl
            | true => have := eq_of_beq hb; subst this; rw [Nat.beq_refl] at hi; cases hi
          exact .inr (.inl ⟨i, u1, fun k k' hk => (go k).trans (u2 _ k' (by simp only [exitTo, hne]; exact hk))⟩)
      · exact .inr (.inr ⟨u1, fun k => (go k).rets (u2 _)⟩)
    · rename_i b
      split at h
      case h_2 => cases h
      rename_i lh hlh
      exact sLoop_true (fun hH hb => ih hH hb) hH h
    · rename_i id
      exact ⟨S, σ, β, ft, st, hH, Ext.refl _, ExtN.refl _, .inr (.inl ⟨id, h, fun k k' hk => Run1.step fun n up dfd recd K => by simp only [List.cons_append, List.nil_append, run, hk]⟩)⟩
    · exact ⟨S, σ, β, ft, st, hH, Ext.refl _, ExtN.refl _, .inr (.inr ⟨h, fun k => ⟨1, fun up dfd recd K hu n hn => by
        obtain ⟨m, rfl⟩ : ∃ m, n = m + 1 := ⟨n - 1, by omega⟩
        show exitK P G (run P G m) f ft [] none dfd recd st (some .ret) K = true
        simp only [exitK]
        unfold unwindK at hu ⊢
        exact hu⟩⟩)⟩
    · rename_i rg ops draw
      simp only at h
      split at h
      · obtain ⟨S', σ', β', ft', st', q1, q2, q3, q4, N, q5⟩ := sReg_true hcall hH h
        refine ⟨S', σ', β', ft', st', q2, q3, q4, .inl ⟨q1, fun k => ⟨N + 1, fun up dfd recd K n1 hr n hn => ?_⟩⟩⟩
        obtain ⟨m, rfl⟩ : ∃ m, n = m + 1 := ⟨n - 1, by omega⟩
        exact q5 m (by omega) dfd up recd _ _ (hr m (by omega))
      · split at h
        case h_2 => cases h
        rename_i hord
        obtain ⟨S', σ', β', ft', st', q1, q2, q3, q4, N, q5⟩ := sDrawn_true (reads := []) (rs := []) hcall hH rfl h
        refine ⟨S', σ', β', ft', st', q2, q3, q4, .inl ⟨q1, fun k => ⟨N + 1, fun up dfd recd K n1 hr n hn => ?_⟩⟩⟩
        obtain ⟨m, rfl⟩ : ∃ m, n = m + 1 := ⟨n - 1, by omega⟩
        simp only [List.cons_append, List.nil_append, run, hord]
        exact q5 m (by omega) dfd up recd _ (hr m (by omega))
    · cases h

/-- A function at arguments of which the types alone are known: the shadow machine comes to an end. -/
theorem sTop_true {n : Nat} {g : FuncId} {args : List SV} {S : Sy} {K : SV → Sy → Bool} (h : sTop P KT J H n g args S K = true) {σ : List AV} {xs : List AV} (hf : FxOk G σ S.fx) (hhp : S.hp = .leaf) (hnb : S.nb = 0)
    (hn : σ.length = S.nv) (ha : RSs G KT σ [] args xs) :
    ∃ sv S' σ' β' st' v, K sv S' = true ∧ RS G KT σ' β' sv v ∧ FxOk G σ' S'.fx ∧ Ext σ σ' ∧ ∃ m, ∀ K' : AEnd → St → Bool, K' (.ret v false) st' = true → Shd.call P G m g xs K' = true := by
  unfold sTop at h
  split at h
  case h_2 => cases h
  rename_i fn hfn
  split at h
  case h_2 => cases h
  rename_i c hc
  obtain ⟨tm', ft', q1, q2, q3⟩ := args_both (i := 0) ha (show TR G KT σ [] .leaf .leaf from fun t s hs => by rw [leaf_get] at hs; cases hs)
  rw [q1, lenK_eq, natK_eq] at h
  obtain ⟨tm, hp, nb, nv, fx⟩ := S
  simp only at h hhp hnb hn hf
  subst hhp hnb
  have hr : HR G KT σ [] .leaf 0 ⟨.leaf, .leaf, 0⟩ := ⟨rfl, rfl, (fun id hid => by cases hid), (fun b sb hb => by rw [leaf_get] at hb; cases hb), (fun b b' sb sb' id hb => by rw [leaf_get] at hb; cases hb)⟩
  have hH : Holds G KT σ [] ⟨tm', .leaf, 0, nv, fx⟩ ft' ⟨.leaf, .leaf, 0⟩ := ⟨hf, q3, hr, hn⟩
  obtain ⟨S1, σ1, β1, ft1, st1, r1, r2, r3, r4⟩ := sCode_true n hH h
  have ent : ∀ n K', Shd.call P G n g xs K' = run P G n ⟨g, ft', 0 + args.length + (fn.ntmps - (0 + args.length)), [.code c], [], none, none, false, false⟩ ⟨.leaf, .leaf, 0⟩ K' := by
    intro n K'
    simp only [Shd.call, enterK, hfn, hc]
    rw [q2, lenK_eq, natK_eq, ha.len]
    rfl
  rcases r4 with ⟨u1, u2⟩ | ⟨id, u1, u2⟩ | ⟨u1, u2⟩
  · obtain ⟨sv, v, w1, w2, w3⟩ := ret_ok hfn r1 u1
    obtain ⟨N, hr⟩ := u2 []
    refine ⟨sv, S1, σ1, β1, st1, v, w1, w2, r1.fx, r2, 1 + N, fun K' hk => ?_⟩
    rw [ent]
    refine hr none false false K' 1 (fun m hm => ?_) _ (Nat.le_refl _)
    obtain ⟨m, rfl⟩ : ∃ k, m = k + 1 := ⟨m - 1, by omega⟩
    show exitK P G (run P G m) g ft1 [] none false false st1 none K' = true
    exact w3 (run P G m) false K' hk
  · cases u1
  · obtain ⟨sv, v, w1, w2, w3⟩ := ret_ok hfn r1 u1
    obtain ⟨N, hr⟩ := u2 []
    refine ⟨sv, S1, σ1, β1, st1, v, w1, w2, r1.fx, r2, N, fun K' hk => ?_⟩
    rw [ent]
    exact hr none false false K' (w3 (fun _ _ _ => false) false K' hk) _ (Nat.le_refl _)
end
end
end Go.Sym
/- What came in, as the symbolic run sees it: memory that is read as laid, slices to any depth. -/
namespace Go.Sym
open Go Go.Shd
noncomputable section

/-- A value of the memory that was there. -/
def toAV : Value → AV
  | .int k n => .int k n
  | .string s => .str (bytesOf s)
  | .slice (some ⟨_, _, some _⟩) 0 _ => .eslc
  | v => .lit v

theorem toAV_VR (μ : Mu) (v : Value) : VR μ (toAV v) v := by
  unfold toAV
  split
  · simp only [VR]
  · exact ⟨_, rfl, rfl⟩
  · exact ⟨_, _, rfl⟩
  · simp only [VR]
theorem toAVs_VRs (μ : Mu) : ∀ (l : List Value), VRs μ (l.map toAV) l
  | [] => rfl
  | v :: l => ⟨v, l, rfl, toAV_VR μ v, toAVs_VRs μ l⟩

def oldG (W : World) : Globals := fun g => match W.heap[g]? with
  | some (.cells arr _ _) => some (arr.toList.map toAV)
  | _ => none

theorem oldG_ok (W : World) : GlobOk (oldG W) W.heap.size W := by
  intro g cs h
  unfold oldG at h
  split at h
  · rename_i arr e fz hg
    cases h
    refine ⟨(Array.getElem?_eq_some_iff.1 hg).1, arr, e, fz, hg, fun μ => ⟨arr.toList, [], by simp, toAVs_VRs μ _⟩⟩
  · cases h

theorem oldG_cell {W : World} {b o : Nat} {v : Value} (h : W.cell? ⟨b, o, none⟩ = some v) : (oldG W b).bind (fun cs => cs[o]?) = some (toAV v) := by
  unfold World.cell? at h
  unfold oldG
  split at h
  · rename_i c e fz hb
    simp only [Option.isSome_none, Bool.false_eq_true, if_false] at h
    have hb' : W.heap[b]? = some (.cells c e fz) := hb
    rw [hb']
    simp only [Option.bind_some, List.getElem?_map, Array.getElem?_toList]
    have : c[o]? = some v := h
    rw [this]; rfl
  · cases h

section
variable (P : Program) (KT : KTab)

/-- What the cells of a value of a type hold. -/
def kindOk : Nat → TypeId → List CK → Bool
  | 0, _, _ => false
  | f + 1, t, ks => match P.underlying t with
    | some (.int k) => match ks with
      | [.int k'] => decide (k = k')
      | _ => false
    | some .bool => match ks with
      | [.bool] => true
      | _ => false
    | some .string => match ks with
      | [.str] => true
      | _ => false
    | some (.slice _) => match ks with
      | [.sl t'] => Nat.beq t t' && (KT.get (key t)).isSome
      | _ => false
    | some (.struct fs) => Nat.beq (P.cellsOf t) ks.length && (fs.toList.all fun fd => kindOk f fd.type ((ks.drop fd.offset).take (P.cellsOf fd.type)) && Nat.beq ((ks.drop fd.offset).take (P.cellsOf fd.type)).length (P.cellsOf fd.type)) &&
        (List.range ks.length).all fun i => fs.toList.any fun fd => Nat.ble fd.offset i && Nat.blt i (fd.offset + P.cellsOf fd.type)
    | _ => false

structure KTOk : Prop where
  row : ∀ t ks lim, KT.get (key t) = some (ks, lim) → ∃ e, P.underlying t = some (.slice e) ∧ P.cellsOf e = ks.length ∧ ks ≠ [] ∧ kindOk P KT 8 e ks = true ∧ reachBytes < (lim + 1) * P.bytesOf e

/-- A cell holds what its kind says, n levels deep. -/
def CellOk (G : Globals) (n : Nat) (ck : CK) (x : AV) : Prop := match ck with
  | .int k => ∃ z, x = .int k z
  | .bool => ∃ b, x = .lit (.bool b)
  | .str => ∃ l, x = .str l
  | .sl t' => Dp G KT n t' x
end

section
variable {P : Program} {KT : KTab} {H : Type} {enc : TypeId × Value → H} {W : World} {base : Nat} {spare : Nat → Bool} {held : Bool}

theorem kind_of_trod {n : Nat} (hn : ∀ (fuel : Nat) (t : TypeId) (v : Value) (d : DataW H) (ps : List MemPlace), (KT.get (key t)).isSome = true → DataW.trod enc P W base spare held fuel t [v] = some (d, ps) → (∀ x ∈ d.weights P t, x ≤ reachBytes) → Dp (oldG W) KT n t (toAV v)) :
    ∀ (kf : Nat) {t : TypeId} {ks : List CK} {fuel : Nat} {cs : List Value} {d : DataW H} {ps : List MemPlace}, kindOk P KT kf t ks = true → DataW.trod enc P W base spare held fuel t cs = some (d, ps) → (∀ x ∈ d.weights P t, x ≤ reachBytes) →
      cs.length = ks.length ∧ ∀ (i : Nat) (ck : CK), ks[i]? = some ck → ∃ v, cs[i]? = some v ∧ CellOk KT (oldG W) n ck (toAV v)
  | 0, t, ks, fuel, cs, d, ps, hk, _, _ => by cases hk
  | kf + 1, t, ks, 0, cs, d, ps, hk, h, _ => by cases h
  | kf + 1, t, ks, fuel + 1, cs, d, ps, hk, h, hw => by
    have one : ∀ {v : Value} {ck : CK}, CellOk KT (oldG W) n ck (toAV v) → ([v] : List Value).length = ([ck] : List CK).length ∧ ∀ (i : Nat) (ck' : CK), ([ck] : List CK)[i]? = some ck' → ∃ v', ([v] : List Value)[i]? = some v' ∧ CellOk KT (oldG W) n ck' (toAV v') := by
      intro v ck hv
      refine ⟨rfl, fun i ck' hi => ?_⟩
      cases i with
      | zero => cases hi; exact ⟨v, rfl, hv⟩
      | succ i => simp at hi
    unfold kindOk at hk
    split at hk
    · rename_i k hu
      split at hk
      case h_2 => cases hk
      have hk := of_decide_eq_true hk
      subst hk
      have hcs : ∃ n, cs = [.int k n] := by
        simp only [DataW.trod, hu] at h
        split at h
        all_goals first
          | (rename_i e1; cases e1; split at h <;> first | (rename_i hk; rw [hk.1]; exact ⟨_, rfl⟩) | cases h)
          | (rename_i e1; cases e1; done)
          | (cases h; done)
      obtain ⟨z, rfl⟩ := hcs
      exact one ⟨z, rfl⟩
    · rename_i hu
      split at hk
      case h_2 => cases hk
      have hcs : ∃ b, cs = [.bool b] := by
        simp only [DataW.trod, hu] at h
        split at h
        all_goals first
          | exact ⟨_, rfl⟩
          | (rename_i e1; cases e1; done)
          | (cases h; done)
      obtain ⟨z, rfl⟩ := hcs
      exact one ⟨z, rfl⟩
    · rename_i hu
      split at hk
      case h_2 => cases hk
      have hcs : ∃ s, cs = [.string s] := by
        simp only [DataW.trod, hu] at h
        split at h
        all_goals first
          | exact ⟨_, rfl⟩
          | (rename_i e1; cases e1; done)
          | (cases h; done)
      obtain ⟨z, rfl⟩ := hcs
      exact one ⟨_, rfl⟩
    · rename_i e hu
      split at hk
      case h_2 => cases hk
      rename_i t'
      simp only [Bool.and_eq_true] at hk
      have ht := Nat.eq_of_beq_eq_true hk.1
      subst ht
      have hcs : ∃ v, cs = [v] := by
        have h' := h
        simp only [DataW.trod, hu] at h'
        split at h'
        all_goals first
          | exact ⟨_, rfl⟩
          | (rename_i e1; cases e1; done)
          | (cases h'; done)
      obtain ⟨v, rfl⟩ := hcs
      exact one (hn _ _ v d ps hk.2 h hw)
    · rename_i fs hu
      simp only [Bool.and_eq_true, List.all_eq_true, List.any_eq_true] at hk
      obtain ⟨⟨h1, h2⟩, h3⟩ := hk
      have h1 := Nat.eq_of_beq_eq_true h1
      simp only [DataW.trod, hu] at h
      split at h
      case isFalse => cases h
      rename_i hlen
      obtain ⟨xs, hxs, hd⟩ := Option.map_eq_some_iff.1 h
      cases hd
      refine ⟨by omega, fun i ck hi => ?_⟩
      have hil : i < ks.length := (List.getElem?_eq_some_iff.1 hi).1
      obtain ⟨fd, hfd, hin⟩ := h3 i (List.mem_range.2 hil)
      have ho := Nat.le_of_ble_eq_true hin.1
      have ho2 : i < fd.offset + P.cellsOf fd.type := by have := hin.2; rw [Nat.blt_eq] at this; exact this
      obtain ⟨j, hj⟩ := List.getElem?_of_mem hfd
      have hg := mapM_some_get hxs j fd hj
      have hjl : j < xs.length := by rw [mapM_some_length hxs]; exact (List.getElem?_eq_some_iff.1 hj).1
      rw [List.getElem?_eq_getElem hjl] at hg
      have hk2 := h2 fd hfd
      have hwj : ∀ x ∈ (xs[j]).1.weights P fd.type, x ≤ reachBytes := fun x hx => hw x (by
        simp only [DataW.weights, hu]
        exact DataW.weights_mem_each (j := j) (t := fd.type) (by rw [List.getElem?_map, hj]; rfl) (by rw [List.getElem?_map, List.getElem?_eq_getElem hjl]; rfl) x hx)
      obtain ⟨r1, r2⟩ := kind_of_trod hn kf hk2.1 (ps := (xs[j]).2) (d := (xs[j]).1) hg hwj
      have hi' : ((ks.drop fd.offset).take (P.cellsOf fd.type))[i - fd.offset]? = some ck := by
        rw [List.getElem?_take_of_lt (by omega), List.getElem?_drop, show fd.offset + (i - fd.offset) = i by omega]; exact hi
      obtain ⟨v, r3, r4⟩ := r2 _ _ hi'
      rw [List.getElem?_take_of_lt (by omega), List.getElem?_drop, show fd.offset + (i - fd.offset) = i by omega] at r3
      exact ⟨v, r3, r4⟩
    · cases hk

theorem add_none (b o n : Nat) : Addr.add ⟨b, o, none⟩ n = ⟨b, o + n, none⟩ := by
  unfold Addr.add
  split
  · rename_i h; rw [h]; rfl
  · rfl

theorem weightsAll_mem {e : TypeId} : ∀ {l : List (DataW H)} {j : Nat} {d : DataW H}, l[j]? = some d → ∀ x ∈ d.weights P e, x ∈ DataW.weightsAll P e l
  | [], j, d, h => by simp at h
  | a :: l, 0, d, h => fun x hx => by
    simp only [List.getElem?_cons_zero, Option.some.injEq] at h
    subst h
    simp only [DataW.weightsAll, List.mem_append]; exact .inl hx
  | a :: l, j + 1, d, h => fun x hx => by
    simp only [List.getElem?_cons_succ] at h
    simp only [DataW.weightsAll, List.mem_append]; exact .inr (weightsAll_mem h x hx)

/-- A slice that came in, to any depth. -/
theorem dp_of_trod (hK : KTOk P KT) : ∀ (n fuel : Nat) (t : TypeId) (v : Value) (d : DataW H) (ps : List MemPlace), (KT.get (key t)).isSome = true → DataW.trod enc P W base spare held fuel t [v] = some (d, ps) → (∀ x ∈ d.weights P t, x ≤ reachBytes) → Dp (oldG W) KT n t (toAV v)
  | 0, _, _, _, _, _, _, _, _ => trivial
  | n + 1, fuel, t, v, d, ps, hk, h, hw => by
    obtain ⟨⟨ks, lim⟩, hkt⟩ := Option.isSome_iff_exists.1 hk
    obtain ⟨e, hu, hce, hne, hko, hlim⟩ := hK.row t ks lim hkt
    rcases DataW.trod_slice hu h with ⟨h1, _⟩ | ⟨a, len, cap, elems, rest, m, rfl, h1, h2, _, h4, _, h6, h7, _, _⟩
    · cases h1
      exact .inl (.inl rfl)
    · cases h1
      cases h2
      obtain ⟨g, o, p⟩ := a
      have hpos : 0 < ks.length := by cases ks with
        | nil => exact absurd rfl hne
        | cons => simp
      have hel : ∀ j, j < len → ∃ cs y, W.cells? base (Addr.add ⟨g, o, p⟩ (j * ks.length)) ks.length = some cs ∧ DataW.trod enc P W base spare held m e cs = some y ∧ elems[j]? = some y := by
        intro j hj
        have hh := h7 j hj
        rw [List.getElem?_eq_getElem (by omega), Option.bind_eq_some_iff] at hh
        obtain ⟨cs, q1, q2⟩ := hh
        rw [hce] at q1
        exact ⟨cs, _, q1, q2, List.getElem?_eq_getElem (by omega)⟩
      have hcell : 0 < len → p = none := by
        intro hj
        obtain ⟨cs, y, q1, q2, q3⟩ := hel 0 hj
        obtain ⟨r1, r2, r3⟩ := World.cells?_some q1
        have hh := r3 0 hpos
        rw [List.getElem?_eq_getElem (by omega)] at hh
        cases p with
        | none => rfl
        | some z =>
          exfalso
          simp only [Nat.zero_mul, Addr.add, if_pos, World.cell?, Option.isSome_some] at hh
          split at hh <;> cases hh
      have hbound : len ≤ lim := by
        have hx : (elems.length + rest.length) * P.bytesOf e ≤ reachBytes := hw _ (by simp only [DataW.weights, hu, List.length_map]; exact List.mem_cons_self)
        have : (elems.length + rest.length) * P.bytesOf e < (lim + 1) * P.bytesOf e := Nat.lt_of_le_of_lt hx hlim
        have := Nat.lt_of_mul_lt_mul_right this
        omega
      cases p with
      | some z =>
        cases len with
        | zero => exact .inl (.inr rfl)
        | succ k => cases hcell (by omega)
      | none =>
        refine .inr ⟨g, o, len, cap, ks, lim, rfl, h4, hkt, hbound, fun j hj i ck hi => ?_⟩
        obtain ⟨cs, y, q1, q2, q3⟩ := hel j hj
        obtain ⟨r1, r2, r3⟩ := World.cells?_some q1
        have hwj : ∀ x ∈ y.1.weights P e, x ≤ reachBytes := fun x hx => hw x (by
          simp only [DataW.weights, hu]
          refine List.mem_cons_of_mem _ (List.mem_append.2 (.inl (weightsAll_mem (j := j) (d := y.1) ?_ x hx)))
          rw [List.getElem?_map, q3]; rfl)
        obtain ⟨_, u2⟩ := kind_of_trod (dp_of_trod hK n) 8 hko (d := y.1) (ps := y.2) q2 hwj
        obtain ⟨v, w1, w2⟩ := u2 i ck hi
        have hi' : i < ks.length := (List.getElem?_eq_some_iff.1 hi).1
        have hv := r3 i hi'
        rw [w1] at hv
        refine ⟨toAV v, ?_, w2⟩
        show (oldG W g).bind (fun cs => cs[o + (j * ks.length + i)]?) = _
        exact oldG_cell (by rw [← hv, add_none, add_none, Nat.add_assoc])
end
end
end Go.Sym
/- A function at arguments of its types: what the machine's own call comes to. -/
namespace Go.Sym
open Go Go.Shd Go.RowKit
noncomputable section
section
variable {P : Program} {G : Globals} {KT : KTab} {J : FuncId → Option SV} {H : FuncId → Nat → Option LoopHint}

theorem globOk_below {G : Shd.Globals} {N : Nat} {w w' : World} (hg : Shd.GlobOk G N w) (hb : Below N w w') (h : N ≤ w'.heap.size) : Shd.GlobOk G w'.heap.size w' := by
  intro g cs hgc
  obtain ⟨hl, arr, e, fz, h1, h2⟩ := hg g cs hgc
  exact ⟨by omega, arr, e, fz, by rw [hb.block g hl]; exact h1, h2⟩

open Classical in
/-- A function at arguments of its types: it returns, and writes nothing that was there. -/
theorem sTop_calls (hmix : P.follows .mixedOrders = true) {n : Nat} {g : FuncId} {args : List SV} {S : Sy} {K : SV → Sy → Bool} (h : sTop P KT J H n g args S K = true) {σ : List AV} {xs : List AV} (hf : FxOk G σ S.fx) (hhp : S.hp = .leaf) (hnb : S.nb = 0)
    (hn : σ.length = S.nv) (ha : RSs G KT σ [] args xs) {w : World} (hg : GlobOk G w.heap.size w) {A : Array Value} (hA : ∀ μ, VRs μ xs A.toList) :
    ∃ sv S' σ' β' v, K sv S' = true ∧ RS G KT σ' β' sv v ∧ Calls P g A w fun E w' => Below w.heap.size w w' ∧ ∃ μ' V, E = .returned V ∧ VR μ' v V := by
  obtain ⟨sv, S', σ', β', st', v, h1, h2, _, _, m, h3⟩ := sTop_true h hf hhp hnb hn ha
  have hc := h3 (fun e st => decide (e = .ret v false)) (by simp)
  obtain ⟨e, st2, hk, h4⟩ := call_true hmix hc
  have hk := of_decide_eq_true hk
  subst hk
  refine ⟨sv, S', σ', β', v, h1, h2, (h4 w A hg hA).mono fun E w' ⟨μ', hp, hE⟩ => ?_⟩
  obtain ⟨V, hE, hv⟩ := hE
  exact ⟨⟨hp.same.os, hp.same.tape, hp.same.out, hp.size, fun k hk => (hp.frame k hk (fun id b hb => by simp at hb)).1⟩, μ', V, hE, hv⟩
end
end
end Go.Sym
/- The slices' types, checked against the program. -/
namespace Go.Sym
open Go Go.Shd Go.RowKit
noncomputable section

def unkey : Key → Nat
  | .e => 0
  | .o k => 2 * unkey k + 1
  | .i k => 2 * unkey k + 2

theorem unkey_keyF : ∀ (f n : Nat), n < f → unkey (keyF f n) = n
  | 0, n, h => by omega
  | f + 1, n, h => by
    have hbn : Nat.beq n 0 = decide (n = 0) := by cases n <;> rfl
    have hln : Nat.beq (Nat.land n 1) 1 = decide (n % 2 = 1) := by
      have : Nat.land n 1 = n % 2 := Nat.and_one_is_mod n
      rw [this]; rcases Nat.mod_two_eq_zero_or_one n with h | h <;> rw [h] <;> rfl
    have s1 (a : Nat) : Nat.shiftRight a 1 = a / 2 := Nat.shiftRight_succ a 0
    have s2 (a : Nat) : Nat.sub a 1 = a - 1 := rfl
    simp only [keyF, hbn, hln, s1, s2]
    by_cases n0 : n = 0
    · simp [n0, unkey]
    · by_cases n1 : n % 2 = 1
      · simp only [n0, n1, decide_false, decide_true, unkey]
        rw [unkey_keyF f (n / 2) (by omega)]; omega
      · simp only [n0, n1, decide_false, unkey]
        rw [unkey_keyF f ((n - 1) / 2) (by omega)]; omega
theorem unkey_key (n : Nat) : unkey (key n) = n := unkey_keyF _ _ (Nat.lt_succ_self _)

/-- A test of all that a table holds. -/
def allK {α : Type} : T α → (Nat → α → Bool) → Bool
  | .leaf, _ => true
  | .node v l r, p => (match v with | none => true | some x => p 0 x) && (allK l (fun n x => p (2 * n + 1) x) && allK r (fun n x => p (2 * n + 2) x))

theorem allK_get {α : Type} : ∀ {t : T α} {p : Nat → α → Bool} {k : Key} {x : α}, allK t p = true → t.get k = some x → p (unkey k) x = true
  | .leaf, p, k, x, _, h => by cases k <;> cases h
  | .node v l r, p, .e, x, h, hg => by
    have hg : v = some x := hg
    subst hg
    simp only [allK, Bool.and_eq_true] at h
    exact h.1
  | .node v l r, p, .o k, x, h, hg => by
    have hg : l.get k = some x := hg
    simp only [allK, Bool.and_eq_true] at h
    exact allK_get (p := fun n x => p (2 * n + 1) x) h.2.1 hg
  | .node v l r, p, .i k, x, h, hg => by
    have hg : r.get k = some x := hg
    simp only [allK, Bool.and_eq_true] at h
    exact allK_get (p := fun n x => p (2 * n + 2) x) h.2.2 hg

def rowOk (P : Program) (KT : KTab) (t : Nat) (x : List CK × Nat) : Bool :=
  match x with
  | (ks, lim) => match P.underlying t with
    | some (.slice e) => Nat.beq (P.cellsOf e) ks.length && ((match ks with | [] => false | _ :: _ => true) && (kindOk P KT 8 e ks && Nat.blt reachBytes ((lim + 1) * P.bytesOf e)))
    | _ => false

theorem ktOk_of {P : Program} {KT : KTab} (h : allK KT (rowOk P KT) = true) : KTOk P KT := by
  refine ⟨fun t ks lim hg => ?_⟩
  have := allK_get h hg
  rw [unkey_key] at this
  unfold rowOk at this
  simp only at this
  split at this
  · rename_i e hu
    simp only [Bool.and_eq_true] at this
    obtain ⟨h1, h2, h3, h4⟩ := this
    refine ⟨e, hu, Nat.eq_of_beq_eq_true h1, ?_, h3, by rw [Nat.blt_eq] at h4; exact h4⟩
    intro e
    subst e
    cases h2
  · cases this
end
end Go.Sym
