/- The law's function: it returns true at every level and every name. -/
import Derived.Test.YtpdhahkeghblmaaGreatDoorN5
namespace Go.Proofs.YtpdhahkeghblmaaGreatDoor
open Go Go.Proofs Go.RowKit

theorem names : ∃ l : List Value, l.length ≤ 1000 ∧ (∀ k (h : k < l.length), ∃ s, l[k] = .string s) ∧ (∀ w, Calls Tryz.prog 7 #[] w (Strs w l)) ∧ ∀ w, Calls Tryz.prog 8 #[] w (Strs w l) :=
  ⟨namesL, by decide, fun k h => ⟨_, (List.getElem_map (l := [_, _, _, _, _, _, _, _, _, _, _, _, _, _, _]) (f := str) (h := h))⟩, names7, names8⟩

theorem bcell {W w1 : World} (hb : Below W.heap.size W w1) : ∀ b o, b < W.heap.size → w1.cell? ⟨b, o, none⟩ = W.cell? ⟨b, o, none⟩ :=
  fun b o h => hb.cell (p := ⟨b, o, none⟩) h

/-- Two calls that give the same strings; their comparison. -/
theorem equal_of (l : List Value) (hl : l.length ≤ 1000) (hs : ∀ k (h : k < l.length), ∃ s, l[k] = .string s) (w1 w2 : World) (b1 b2 c1 c2 : Nat)
    (hb1 : b1 < w1.heap.size) (h1 : ∀ k, k < l.length → w1.cell? ⟨b1, k, none⟩ = l[k]?) (h2 : ∀ k, k < l.length → w2.cell? ⟨b2, k, none⟩ = l[k]?) (hB : Below w1.heap.size w1 w2) :
    Calls Tryz.prog 6 #[.slice (some ⟨b1, 0, none⟩) l.length c1, .slice (some ⟨b2, 0, none⟩) l.length c2] w2 fun e w' => e = .returned (.bool true) ∧ ∃ n, w' = w2.drewN n :=
  equal_same l b1 b2 c1 c2 w2 hl hs (fun k hk => by rw [bcell hB b1 k hb1]; exact h1 k hk) h2

theorem equal_nil (w : World) : Calls Tryz.prog 6 #[.slice none 0 0, .slice none 0 0] w fun e w' => e = .returned (.bool true) ∧ w' = w := by
  go_enter Tryz.func6, Tryz.ntmps6
  go_wp2
  refine wp_loop_rounds 1 ?_
  rw [rounds_succ]
  go_wp2
  go_ret
  exact ⟨rfl, rfl⟩

theorem bdrewN {B : Nat} {a w : World} (h : Below B a w) (n : Nat) : Below B a (w.drewN n) := ⟨h.os, h.tape, h.output, h.size, h.block⟩

theorem law_any (n : Int) (s : ByteArray) (w : World) (hg : Shd.GlobOk G49 w.heap.size w) : Calls Tryz.prog 3 #[.int .i64 n, .string s] w fun e w' => e = .returned (.bool true) ∧ Below w.heap.size w w' := by
  obtain ⟨l, hl, hs, hn7, hn8⟩ := names
  obtain ⟨m, hm, hms, hp9, hp10⟩ := pipes n
  go_enter Tryz.func3, Tryz.ntmps3
  go_wp2_with fail
  refine (hn7 w).mono ?_
  rintro e w1 ⟨b1, c1, rfl, hb1, hb1', hc1, hB1⟩
  go_wp2_with fail
  refine (hn8 w1).mono ?_
  rintro e w2 ⟨b2, c2, rfl, hb2, hb2', hc2, hB2⟩
  go_wp2_with fail
  refine (equal_of l hl hs w1 w2 b1 b2 c1 c2 hb1' hc1 hc2 hB2).mono ?_
  rintro e w3 ⟨rfl, k3, rfl⟩
  have B3 : Below w.heap.size w (w2.drewN k3) := bdrewN (hB1.trans (hB2.mono hB1.size)) k3
  generalize w2.drewN k3 = w3 at B3 ⊢
  clear hc1 hc2 hB1 hB2 hb1 hb1' hb2 hb2' hn7 hn8 hs hl
  go_wp2_with fail
  refine (hp9 w3).mono ?_
  rintro e w4 ⟨b3, c3, rfl, hb3, hb3', hc3, hB4⟩
  go_wp2_with fail
  refine (hp10 w4).mono ?_
  rintro e w5 ⟨b4, c4, rfl, hb4, hb4', hc4, hB5⟩
  go_wp2_with fail
  refine (equal_of m hm hms w4 w5 b3 b4 c3 c4 hb3' hc3 hc4 hB5).mono ?_
  rintro e w6 ⟨rfl, k6, rfl⟩
  have B6 : Below w.heap.size w (w5.drewN k6) := bdrewN (B3.trans ((hB4.mono B3.size).trans (hB5.mono (Nat.le_trans B3.size hB4.size)))) k6
  generalize w5.drewN k6 = w6 at B6 ⊢
  clear hc3 hc4 hB4 hB5 hb3 hb3' hb4 hb4' hp9 hp10 hms hm B3
  by_cases h6 : isSix s.toList = true
  · have p11 := pres11 s
    have p12 := pres12 s
    simp only [h6, if_true] at p11 p12
    clear h6
    go_wp2_with fail
    refine (p11 w6).mono ?_
    rintro e w7 ⟨b5, c5, rfl, hb5, hb5', hc5, hB7⟩
    go_wp2_with fail
    refine (p12 w7).mono ?_
    rintro e w8 ⟨b6, c6, rfl, hb6, hb6', hc6, hB8⟩
    go_wp2_with fail
    refine (equal_of pres (by decide) (fun k h => ⟨_, (List.getElem_map (l := [_, _]) (f := str) (h := h))⟩) w7 w8 b5 b6 c5 c6 hb5' hc5 hc6 hB8).mono ?_
    rintro e w9 ⟨rfl, k9, rfl⟩
    have B9 : Below w.heap.size w (w8.drewN k9) := bdrewN (B6.trans ((hB7.mono B6.size).trans (hB8.mono (Nat.le_trans B6.size hB7.size)))) k9
    generalize w8.drewN k9 = w9 at B9 ⊢
    clear hc5 hc6 hB7 hB8 hb5 hb5' hb6 hb6' p11 p12 B6
    go_wp2_with fail
    refine (examples_ok w9 (globOk_below hg B9 B9.size)).mono ?_
    rintro e w10 ⟨rfl, hB10⟩
    go_wp2_with fail
    go_ret
    exact ⟨rfl, B9.trans (hB10.mono B9.size)⟩
  · have p11 := pres11 s
    have p12 := pres12 s
    simp only [h6, if_false, Bool.false_eq_true] at p11 p12
    clear h6
    go_wp2_with fail
    refine (p11 w6).mono ?_
    rintro e w7 ⟨rfl, rfl⟩
    go_wp2_with fail
    refine (p12 w7).mono ?_
    rintro e w8 ⟨rfl, rfl⟩
    go_wp2_with fail
    refine (equal_nil w8).mono ?_
    rintro e w9 ⟨rfl, rfl⟩
    clear p11 p12
    go_wp2_with fail
    refine (examples_ok w9 (globOk_below hg B6 B6.size)).mono ?_
    rintro e w10 ⟨rfl, hB10⟩
    go_wp2_with fail
    go_ret
    exact ⟨rfl, B6.trans (hB10.mono B6.size)⟩
end Go.Proofs.YtpdhahkeghblmaaGreatDoor
