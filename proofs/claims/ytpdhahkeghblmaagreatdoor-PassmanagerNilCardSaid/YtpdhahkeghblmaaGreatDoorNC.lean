/- The law's function at any name and any module that a call hands over: it returns true. -/
import Derived.Test.YtpdhahkeghblmaaGreatDoorNB
import Derived.Test.YtpdhahkeghblmaaGreatDoorNE
import Derived.Test.YtpdhahkeghblmaaGreatDoorSB
import Derived.Test.YtpdhahkeghblmaaGreatDoorSym3
import Derived.ProofKit
namespace Go.Proofs.YtpdhahkeghblmaaGreatDoor
open Go Go.Proofs Go.RowKit Go.Shd Go.Sym
noncomputable section
set_option maxRecDepth 1000000

theorem ktab_ok : KTOk Tryz.prog KT := ktOk_of (by kernel_rfl)

theorem kt29 : (KT.get (key 29)).isSome = true := by kernel_rfl
theorem kt30 : (KT.get (key 30)).isSome = true := by kernel_rfl

section
variable {H : Type} {enc : TypeId × Value → H} {W : World} {base : Nat} {spare : Nat → Bool} {held : Bool}

/-- A slice of functions that is not empty: its first element's cells. -/
theorem first_of {fuel : Nat} {a : Option Addr} {n c : Nat} {d : DataW H} {ps : List MemPlace} (h : DataW.trod enc Tryz.prog W base spare held fuel 30 [.slice a n c] = some (d, ps)) (hn : 0 < n) : ∃ f0 f1 f2 f3 f4, FirstAt W a f0 f1 f2 f3 f4 := by
  have hce : Tryz.prog.cellsOf 46 = 5 := by kernel_rfl
  rcases DataW.trod_slice Tryz.underlying30 h with ⟨h1, _⟩ | ⟨a', len, cap, elems, rest, m, rfl, h1, h2, _, h4, _, h6, h7, _, _⟩
  · cases h1; omega
  · cases h1
    have hh := h7 0 hn
    rw [List.getElem?_eq_getElem (by omega), Option.bind_eq_some_iff] at hh
    obtain ⟨cs, q1, q2⟩ := hh
    rw [hce] at q1
    obtain ⟨r1, r2, r3⟩ := World.cells?_some q1
    obtain ⟨g, o, p⟩ := a'
    have hp : p = none := by
      have hh := r3 0 (by omega)
      rw [List.getElem?_eq_getElem (by omega)] at hh
      cases p with
      | none => rfl
      | some z =>
        exfalso
        simp only [Nat.zero_mul, Addr.add, if_pos, World.cell?, Option.isSome_some] at hh
        split at hh <;> cases hh
    subst hp
    match cs, r2 with
    | [f0, f1, f2, f3, f4], _ =>
      have k0 := r3 0 (by omega)
      have k1 := r3 1 (by omega)
      have k2 := r3 2 (by omega)
      have k3 := r3 3 (by omega)
      have k4 := r3 4 (by omega)
      simp only [Nat.zero_mul, add_none, Nat.add_zero] at k0 k1 k2 k3 k4
      exact ⟨f0, f1, f2, f3, f4, g, o, rfl, World.block_lt_of_cell? W _ k0, k0, k1, k2, k3, k4⟩

/-- A module that a call hands over: its two slices. -/
theorem module_open {fuel : Nat} {v : Value} {d : DataW H} {ps : List MemPlace} (h : DataW.trod enc Tryz.prog W base spare held fuel 32 v.cells.toList = some (d, ps)) (hw : ∀ x ∈ d.weights Tryz.prog 32, x ≤ reachBytes) :
    ∃ a0 n0 c0 a1 n1 c1, v = .agg #[.slice a0 n0 c0, .slice a1 n1 c1] ∧ Sl (oldG W) KT 29 (toAV (.slice a0 n0 c0)) ∧ Sl (oldG W) KT 30 (toAV (.slice a1 n1 c1)) ∧ n1 ≤ 1000000000000000000 ∧
      (0 < n1 → ∃ f0 f1 f2 f3 f4, FirstAt W a1 f0 f1 f2 f3 f4) := by
  have c29 : Tryz.prog.cellsOf 29 = 1 := by kernel_rfl
  have c30 : Tryz.prog.cellsOf 30 = 1 := by kernel_rfl
  have c32 : Tryz.prog.cellsOf 32 = 2 := by kernel_rfl
  have slf : ∀ {t e : TypeId} {x : Value} {fuel : Nat} {d : DataW H} {ps : List MemPlace}, Tryz.prog.underlying t = some (.slice e) → DataW.trod enc Tryz.prog W base spare held fuel t [x] = some (d, ps) → ∃ a n c, x = .slice a n c := by
    intro t e x fuel d ps hu h
    rcases DataW.trod_slice hu h with ⟨h1, _⟩ | ⟨a, len, cap, _, _, _, _, h1, _⟩
    · cases h1; exact ⟨_, _, _, rfl⟩
    · cases h1; exact ⟨_, _, _, rfl⟩
  obtain ⟨xs, m, _, hx, hl, hn, hel⟩ := DataW.trod_struct Tryz.underlying32 h
  rw [c32] at hl
  have h0 : DataW.trod enc Tryz.prog W base spare held m 29 ((v.cells.toList.drop 0).take (Tryz.prog.cellsOf 29)) = xs[0]? := hel 0 _ rfl
  have h1 : DataW.trod enc Tryz.prog W base spare held m 30 ((v.cells.toList.drop 1).take (Tryz.prog.cellsOf 30)) = xs[1]? := hel 1 _ rfl
  rw [show Tryz.prog.cellsOf 29 = 1 from c29] at h0
  rw [show Tryz.prog.cellsOf 30 = 1 from c30] at h1
  match xs, hn with
  | [(d0, q0), (d1, q1)], _ =>
    obtain ⟨x, y, hxy⟩ : ∃ x y, v.cells.toList = [x, y] := by
      rcases hv : v.cells.toList with _ | ⟨x, _ | ⟨y, _ | ⟨z, r⟩⟩⟩ <;> rw [hv] at hl <;> simp at hl
      exact ⟨x, y, rfl⟩
    rw [hxy] at h0 h1
    simp only [List.drop_zero, List.take_succ_cons, List.take_zero, List.drop_succ_cons, List.getElem?_cons_zero, List.getElem?_cons_succ] at h0 h1
    have hv : v = .agg #[x, y] := by
      cases v with
      | agg cs =>
        have : cs.toList = [x, y] := hxy
        obtain ⟨l⟩ := cs
        simp only at this
        rw [this]
      | _ => simp [Value.cells] at hxy
    subst hv
    cases hx
    obtain ⟨a0, n0, c0, rfl⟩ := slf Tryz.underlying29 h0
    obtain ⟨a1, n1, c1, rfl⟩ := slf Tryz.underlying30 h1
    have w0 : ∀ x ∈ d0.weights Tryz.prog 29, x ≤ reachBytes := fun x hx => hw x (by
      simp only [DataW.weights, Tryz.underlying32]
      exact DataW.weights_mem_each (j := 0) (t := 29) rfl rfl x hx)
    have w1 : ∀ x ∈ d1.weights Tryz.prog 30, x ≤ reachBytes := fun x hx => hw x (by
      simp only [DataW.weights, Tryz.underlying32]
      exact DataW.weights_mem_each (j := 1) (t := 30) rfl rfl x hx)
    have s0 : Sl (oldG W) KT 29 (toAV (.slice a0 n0 c0)) := fun n => dp_of_trod ktab_ok n _ _ _ _ _ kt29 h0 w0
    have s1 : Sl (oldG W) KT 30 (toAV (.slice a1 n1 c1)) := fun n => dp_of_trod ktab_ok n _ _ _ _ _ kt30 h1 w1
    refine ⟨a0, n0, c0, a1, n1, c1, rfl, s0, s1, ?_, fun hp => first_of h1 hp⟩
    have hb : Tryz.prog.bytesOf 46 = 96 := by kernel_rfl
    have hr := reachBytes_lt
    rcases DataW.trod_slice Tryz.underlying30 h1 with ⟨h1, _⟩ | ⟨a', len, cap, elems, rest, m, rfl, h1, h2, _, h4, _, h6, h7, _, _⟩
    · cases h1; omega
    · cases h1
      cases h2
      have := w1 _ (by simp only [DataW.weights, Tryz.underlying30]; exact List.mem_cons_self)
      simp only [List.length_map, hb] at this
      omega
end

theorem args_rel {W : World} {v0 v1 : Value} (s0 : Sl (oldG W) KT 29 (toAV v0)) (s1 : Sl (oldG W) KT 30 (toAV v1)) : RSs (oldG W) KT [toAV v0, toAV v1] [] [.agg [.sl 29 (.v 0), .sl 30 (.v 1)]] [.agg [toAV v0, toAV v1]] :=
  ⟨_, [], rfl, ⟨_, rfl, _, _, rfl, ⟨rfl, s0⟩, _, _, rfl, ⟨rfl, s1⟩, rfl⟩, rfl⟩
theorem args_val {v0 v1 : Value} (μ : Mu) : VRs μ [.agg [toAV v0, toAV v1]] (#[Value.agg #[v0, v1]] : Array Value).toList :=
  ⟨_, [], rfl, ⟨_, rfl, toAVs_VRs μ [v0, v1]⟩, rfl⟩
theorem fx0 {G : Globals} {σ : List AV} : FxOk G σ start0.fx := ⟨by simp [start0], by simp [start0], by simp [start0], by simp [start0], by simp [start0], by simp [start0], by simp [start0]⟩

theorem tooLarge_goes {W : World} {v0 v1 : Value} (s0 : Sl (oldG W) KT 29 (toAV v0)) (s1 : Sl (oldG W) KT 30 (toAV v1)) (W' : World) (hb : Below W.heap.size W W') :
    Calls Tryz.prog 14 #[.agg #[v0, v1]] W' fun e w' => (∃ k, e = .returned (.int .i64 k)) ∧ Below W'.heap.size W' w' := by
  obtain ⟨sv, S', σ', β', v, h1, h2, h3⟩ := sTop_calls (A := #[.agg #[v0, v1]]) mixed tooLarge_run fx0 rfl rfl rfl (args_rel s0 s1) (Go.Sym.globOk_below (oldG_ok W) hb hb.size) args_val
  refine h3.mono fun e w' ⟨hB, μ', V, hE, hv⟩ => ⟨?_, hB⟩
  unfold isI64 at h1
  split at h1
  · obtain ⟨n, _, rfl⟩ := h2
    simp only [VR] at hv
    exact ⟨n, by rw [hE, hv]⟩
  · cases h1

theorem int_rs {G : Globals} {σ : List AV} {β : List Nat} {e : E} {x : AV} (h : RS G KT σ β (.int .i64 e) x) : ∃ n, x = .int .i64 n := by
  obtain ⟨n, _, h⟩ := h; exact ⟨n, h⟩

theorem module_goes {W : World} {v0 v1 : Value} (s0 : Sl (oldG W) KT 29 (toAV v0)) (s1 : Sl (oldG W) KT 30 (toAV v1)) (W' : World) (hb : Below W.heap.size W W') :
    Calls Tryz.prog 15 #[.agg #[v0, v1]] W' fun e w' => (∃ k0 k1 k2 k3 k4, e = .returned (.agg #[.int .i64 k0, .int .i64 k1, .int .i64 k2, .int .i64 k3, .int .i64 k4])) ∧ Below W'.heap.size W' w' := by
  obtain ⟨sv, S', σ', β', v, h1, h2, h3⟩ := sTop_calls (A := #[.agg #[v0, v1]]) mixed module_run fx0 rfl rfl rfl (args_rel s0 s1) (Go.Sym.globOk_below (oldG_ok W) hb hb.size) args_val
  refine h3.mono fun e w' ⟨hB, μ', V, hE, hv⟩ => ⟨?_, hB⟩
  unfold isDiag at h1
  split at h1
  · obtain ⟨xs, rfl, _, _, rfl, r0, _, _, rfl, r1, _, _, rfl, r2, _, _, rfl, r3, _, _, rfl, r4, rfl⟩ := h2
    obtain ⟨k0, rfl⟩ := int_rs r0
    obtain ⟨k1, rfl⟩ := int_rs r1
    obtain ⟨k2, rfl⟩ := int_rs r2
    obtain ⟨k3, rfl⟩ := int_rs r3
    obtain ⟨k4, rfl⟩ := int_rs r4
    obtain ⟨A, rfl, hA⟩ := hv
    obtain ⟨l⟩ := A
    simp only [VRs, VR] at hA
    obtain ⟨_, _, rfl, rfl, _, _, rfl, rfl, _, _, rfl, rfl, _, _, rfl, rfl, _, _, rfl, rfl, rfl⟩ := hA
    exact ⟨k0, k1, k2, k3, k4, hE⟩
  · cases h1

/-- The law's function. -/
theorem nil_goes {H : Type} {enc : TypeId × Value → H} {W : World} {base : Nat} {spare : Nat → Bool} {held : Bool} {fuel : Nat} {v : Value} {d : DataW H} {ps : List MemPlace} (s : ByteArray)
    (h : DataW.trod enc Tryz.prog W base spare held fuel 32 v.cells.toList = some (d, ps)) (hw : ∀ x ∈ d.weights Tryz.prog 32, x ≤ reachBytes) (hg : GlobOk G49 W.heap.size W) :
    Calls Tryz.prog 5 #[.string s, v] W fun e w' => e = .returned (.bool true) ∧ Below W.heap.size W w' := by
  obtain ⟨a0, n0, c0, a1, n1, c1, rfl, s0, s1, hn, hf⟩ := module_open h hw
  by_cases hp : 0 < n1
  · obtain ⟨f0, f1, f2, f3, f4, hF⟩ := hf hp
    exact nil_law W s a0 a1 n0 n1 c0 c1 f0 f1 f2 f3 f4 (tooLarge_goes s0 s1) (module_goes s0 s1) (fun W' hb => examples_ok W' (globOk_below hg hb hb.size)) hn (fun _ => hF)
  · exact nil_law W s a0 a1 n0 n1 c0 c1 (.bool true) (.bool true) (.bool true) (.bool true) (.bool true) (tooLarge_goes s0 s1) (module_goes s0 s1) (fun W' hb => examples_ok W' (globOk_below hg hb hb.size)) hn (fun h => absurd h hp)
end
end Go.Proofs.YtpdhahkeghblmaaGreatDoor
