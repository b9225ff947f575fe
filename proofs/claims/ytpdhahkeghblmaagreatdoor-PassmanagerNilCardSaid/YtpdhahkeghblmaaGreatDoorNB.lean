/- The law's function at any name and any module: it returns true. -/
import Derived.Test.YtpdhahkeghblmaaGreatDoorNA
namespace Go.Proofs.YtpdhahkeghblmaaGreatDoor
open Go Go.Proofs Go.RowKit

/-- The first element of the functions' slice. -/
def FirstAt (w : World) (a : Option Addr) (f0 f1 f2 f3 f4 : Value) : Prop :=
  ∃ b o, a = some ⟨b, o, none⟩ ∧ b < w.heap.size ∧ w.cell? ⟨b, o, none⟩ = some f0 ∧ w.cell? ⟨b, o + 1, none⟩ = some f1 ∧ w.cell? ⟨b, o + 2, none⟩ = some f2 ∧ w.cell? ⟨b, o + 3, none⟩ = some f3 ∧ w.cell? ⟨b, o + 4, none⟩ = some f4

theorem code_field (k0 k1 k2 k3 k4 : Int) (w : World) : (Instr.field 37 (.agg #[.int .i64 k0, .int .i64 k1, .int .i64 k2, .int .i64 k3, .int .i64 k4]) 0).run Tryz.prog w = .ok (.int .i64 k0) w := by kernel_rfl

/-- What is kept from the zero analyses on. -/
structure Held (w : World) (z b o : Nat) (v0 v1 f0 f1 f2 f3 f4 : Value) (W : World) : Prop where
  hb : Below w.heap.size w W
  lw : w.heap.size < W.heap.size
  lz : z < W.heap.size
  lb : b < W.heap.size
  g0 : W.cell? ⟨w.heap.size, 0, none⟩ = some v0
  g1 : W.cell? ⟨w.heap.size, 1, none⟩ = some v1
  zz : W.cell? ⟨z, 0, none⟩ = some (.bool false)
  h0 : W.cell? ⟨b, o, none⟩ = some f0
  h1 : W.cell? ⟨b, o + 1, none⟩ = some f1
  h2 : W.cell? ⟨b, o + 2, none⟩ = some f2
  h3 : W.cell? ⟨b, o + 3, none⟩ = some f3
  h4 : W.cell? ⟨b, o + 4, none⟩ = some f4

theorem Held.step {w : World} {z b o : Nat} {v0 v1 f0 f1 f2 f3 f4 : Value} {W W' : World} (h : Held w z b o v0 v1 f0 f1 f2 f3 f4 W) (hB : Below W.heap.size W W') : Held w z b o v0 v1 f0 f1 f2 f3 f4 W' :=
  ⟨h.hb.trans (hB.mono (Nat.le_of_lt h.lw)), Nat.lt_of_lt_of_le h.lw hB.size, Nat.lt_of_lt_of_le h.lz hB.size, Nat.lt_of_lt_of_le h.lb hB.size,
   (hB.cell (p := ⟨w.heap.size, 0, none⟩) h.lw).trans h.g0, (hB.cell (p := ⟨w.heap.size, 1, none⟩) h.lw).trans h.g1, (hB.cell (p := ⟨z, 0, none⟩) h.lz).trans h.zz,
   (hB.cell (p := ⟨b, o, none⟩) h.lb).trans h.h0, (hB.cell (p := ⟨b, o + 1, none⟩) h.lb).trans h.h1, (hB.cell (p := ⟨b, o + 2, none⟩) h.lb).trans h.h2, (hB.cell (p := ⟨b, o + 3, none⟩) h.lb).trans h.h3, (hB.cell (p := ⟨b, o + 4, none⟩) h.lb).trans h.h4⟩

set_option maxRecDepth 100000 in
theorem nil_law (w : World) (s : ByteArray) (a0 a1 : Option Addr) (n0 n1 c0 c1 : Nat) (f0 f1 f2 f3 f4 : Value)
    (hT : ∀ W, Below w.heap.size w W → Calls Tryz.prog 14 #[.agg #[.slice a0 n0 c0, .slice a1 n1 c1]] W fun e w' => (∃ k, e = .returned (.int .i64 k)) ∧ Below W.heap.size W w')
    (hM : ∀ W, Below w.heap.size w W → Calls Tryz.prog 15 #[.agg #[.slice a0 n0 c0, .slice a1 n1 c1]] W fun e w' => (∃ k0 k1 k2 k3 k4, e = .returned (.agg #[.int .i64 k0, .int .i64 k1, .int .i64 k2, .int .i64 k3, .int .i64 k4])) ∧ Below W.heap.size W w')
    (hX : ∀ W, Below w.heap.size w W → Calls Tryz.prog 13 #[] W fun e w' => e = .returned (.bool true) ∧ Below W.heap.size W w')
    (hn : n1 ≤ 1000000000000000000) (hF : 0 < n1 → FirstAt w a1 f0 f1 f2 f3 f4) :
    Calls Tryz.prog 5 #[.string s, .agg #[.slice a0 n0 c0, .slice a1 n1 c1]] w fun e w' => e = .returned (.bool true) ∧ Below w.heap.size w w' := by
  go_enter Tryz.func5, Tryz.ntmps5
  go_wp2_with fail
  have hb0 : Below w.heap.size w (w.alloc (.cells #[.slice a0 n0 c0, .slice a1 n1 c1] 32)) := (Below.refl _ _).alloc (Nat.le_refl _) _
  refine (hT _ hb0).mono ?_
  rintro e w1 ⟨⟨k, rfl⟩, hB1⟩
  have hb1 : Below w.heap.size w w1 := hb0.trans (hB1.mono (by simp))
  have e0 : w1.cell? ⟨w.heap.size, 0, none⟩ = some (.slice a0 n0 c0) := by
    rw [hB1.cell (p := ⟨w.heap.size, 0, none⟩) (by simp), World.cell?_alloc_at _ _ _ _ rfl]; rfl
  have e1 : w1.cell? ⟨w.heap.size, 1, none⟩ = some (.slice a1 n1 c1) := by
    rw [hB1.cell (p := ⟨w.heap.size, 1, none⟩) (by simp), World.cell?_alloc_at _ _ _ _ rfl]; rfl
  have l1 : w.heap.size < w1.heap.size := by have := hB1.size; simp at this; omega
  clear hB1 hb0
  by_cases hk : k = 1
  · subst hk
    go_wp2_with fail
    refine (hX _ hb1).mono ?_
    rintro e w2 ⟨rfl, hB2⟩
    go_wp2_with fail
    go_ret
    exact ⟨rfl, hb1.trans (hB2.mono hb1.size)⟩
  · go_wp2_with fail
    refine (hM _ hb1).mono ?_
    rintro e w2 ⟨⟨k0, k1, k2, k3, k4, rfl⟩, hB2⟩
    have hb2 : Below w.heap.size w w2 := hb1.trans (hB2.mono hb1.size)
    have g0 : w2.cell? ⟨w.heap.size, 0, none⟩ = some (.slice a0 n0 c0) := by
      rw [hB2.cell (p := ⟨w.heap.size, 0, none⟩) l1]; exact e0
    have g1 : w2.cell? ⟨w.heap.size, 1, none⟩ = some (.slice a1 n1 c1) := by
      rw [hB2.cell (p := ⟨w.heap.size, 1, none⟩) l1]; exact e1
    have l2 : w.heap.size < w2.heap.size := Nat.lt_of_lt_of_le l1 hB2.size
    clear hB2 hb1 e0 e1
    have hfd : ∀ w : World, (Instr.field 37 (.agg #[.int .i64 k0, .int .i64 k1, .int .i64 k2, .int .i64 k3, .int .i64 k4]) 0).run Tryz.prog w = .ok (.int .i64 k0) w := fun w => code_field k0 k1 k2 k3 k4 w
    by_cases hk0 : k0 = 0
    · subst hk0
      by_cases hn0 : n1 = 0
      · subst hn0
        go_wp2_with fail
        refine (hX _ hb2).mono ?_
        rintro e w3 ⟨rfl, hB3⟩
        go_wp2_with fail
        go_ret
        exact ⟨rfl, hb2.trans (hB3.mono hb2.size)⟩
      · obtain ⟨b, o, rfl, hbl, h0, h1, h2, h3, h4⟩ := hF (by omega)
        rw [← hb2.cell (p := ⟨b, o, none⟩) hbl] at h0
        rw [← hb2.cell (p := ⟨b, o + 1, none⟩) hbl] at h1
        rw [← hb2.cell (p := ⟨b, o + 2, none⟩) hbl] at h2
        rw [← hb2.cell (p := ⟨b, o + 3, none⟩) hbl] at h3
        rw [← hb2.cell (p := ⟨b, o + 4, none⟩) hbl] at h4
        have hbl2 : b < w2.heap.size := Nat.lt_of_lt_of_le hbl hb2.size
        clear hT hM hF
        have hn' : ((n1 : Int) == 0) = false := by simp; omega
        have hk' : (k == 1) = false := by simpa using hk
        go_wp2_with fail
        have S : Held w w2.heap.size b o (.slice a0 n0 c0) (.slice (some ⟨b, o, none⟩) n1 c1) f0 f1 f2 f3 f4 (w2.alloc
          (.cells #[.bool false, .string { data := #[] }, .slice none 0 0, .int .i64 0, .slice none 0 0, .slice none 0 0, .map none, .slice none 0 0, .slice none 0 0, .slice none 0 0, .int .i64 0] 71)) := by
          have ha : ∀ p : Addr, p.block < w2.heap.size → (w2.alloc (.cells #[.bool false, .string { data := #[] }, .slice none 0 0, .int .i64 0, .slice none 0 0, .slice none 0 0, .map none, .slice none 0 0, .slice none 0 0, .slice none 0 0, .int .i64 0] 71)).cell? p = w2.cell? p :=
            fun p hp => ((Below.refl w2.heap.size w2).alloc (Nat.le_refl _) _).cell (p := p) hp
          refine ⟨hb2.alloc (Nat.le_of_lt l2) _, by simp; omega, by simp, by simp; omega, (ha _ l2).trans g0, (ha _ l2).trans g1, ?_, (ha _ hbl2).trans h0, (ha _ hbl2).trans h1, (ha _ hbl2).trans h2, (ha _ hbl2).trans h3, (ha _ hbl2).trans h4⟩
          rw [World.cell?_alloc_at _ _ _ _ rfl]; rfl
        clear hb2 l2 g0 g1 h0 h1 h2 h3 h4 hbl2 hbl l1
        refine (upd_nil _ s f0 f1 f2 f3 f4).mono ?_
        rintro e w10 ⟨rfl, hB⟩
        have S := S.step hB
        obtain ⟨_, lw, lz, lb, g0, g1, zz, h0, h1, h2, h3, h4⟩ := id S
        clear hB
        go_wp2_with fail
        refine (upd_zero _ _ zz s f0 f1 f2 f3 f4).mono ?_
        rintro e w11 ⟨rfl, hB⟩
        have S := S.step hB
        obtain ⟨_, lw, lz, lb, g0, g1, zz, h0, h1, h2, h3, h4⟩ := id S
        clear hB
        go_wp2_with fail
        refine (dom_nil _).mono ?_
        rintro e w12 ⟨rfl, hB⟩
        have S := S.step hB
        obtain ⟨_, lw, lz, lb, g0, g1, zz, h0, h1, h2, h3, h4⟩ := id S
        clear hB
        go_wp2_with fail
        refine (live_nil _).mono ?_
        rintro e w13 ⟨rfl, hB⟩
        have S := S.step hB
        obtain ⟨_, lw, lz, lb, g0, g1, zz, h0, h1, h2, h3, h4⟩ := id S
        clear hB
        go_wp2_with fail
        refine (loops_nil _).mono ?_
        rintro e w14 ⟨rfl, hB⟩
        have S := S.step hB
        obtain ⟨_, lw, lz, lb, g0, g1, zz, h0, h1, h2, h3, h4⟩ := id S
        clear hB
        go_wp2_with fail
        refine (comp_nil _).mono ?_
        rintro e w15 ⟨rfl, hB⟩
        have S := S.step hB
        obtain ⟨_, lw, lz, lb, g0, g1, zz, h0, h1, h2, h3, h4⟩ := id S
        clear hB
        go_wp2_with fail
        refine (dom_zero _ _ zz).mono ?_
        rintro e w16 ⟨rfl, hB⟩
        have S := S.step hB
        obtain ⟨_, lw, lz, lb, g0, g1, zz, h0, h1, h2, h3, h4⟩ := id S
        clear hB
        go_wp2_with fail
        refine (live_zero _ _ zz).mono ?_
        rintro e w17 ⟨rfl, hB⟩
        have S := S.step hB
        obtain ⟨_, lw, lz, lb, g0, g1, zz, h0, h1, h2, h3, h4⟩ := id S
        clear hB
        go_wp2_with fail
        refine (loops_zero _ _ zz).mono ?_
        rintro e w18 ⟨rfl, hB⟩
        have S := S.step hB
        obtain ⟨_, lw, lz, lb, g0, g1, zz, h0, h1, h2, h3, h4⟩ := id S
        clear hB
        go_wp2_with fail
        refine (comp_zero _ _ zz).mono ?_
        rintro e w19 ⟨rfl, hB⟩
        have S := S.step hB
        obtain ⟨_, lw, lz, lb, g0, g1, zz, h0, h1, h2, h3, h4⟩ := id S
        clear hB
        go_wp2_with fail
        refine (hX _ S.hb).mono ?_
        rintro e w3 ⟨rfl, hB3⟩
        go_wp2_with fail
        go_ret
        exact ⟨rfl, S.hb.trans (hB3.mono S.hb.size)⟩
    · go_wp2_with fail
      refine (hX _ hb2).mono ?_
      rintro e w3 ⟨rfl, hB3⟩
      go_wp2_with fail
      go_ret
      exact ⟨rfl, hb2.trans (hB3.mono hb2.size)⟩
end Go.Proofs.YtpdhahkeghblmaaGreatDoor
