/-
  PassmanagerNil returns true at every name of a pass and every module, and leaves its arguments as they were.
  Conditions: the package variables that the row lists read as the program's text lays them when the call begins (the row's own cell 'laid'); the card ties them to the text.
-/
import Derived.Test.YtpdhahkeghblmaaGreatDoorRows
import Derived.Test.YtpdhahkeghblmaaGreatDoorK1
import Derived.MakeChecks
import Derived.LaidLaws
import Derived.LaidHandle
import Derived.Handed
import Derived.ChangeMaps5
import Derived.Stop.Joined
namespace Go.Proofs.YtpdhahkeghblmaaGreatDoor
open Go Go.Proofs Go.ChangeShapes Go.WideShapes Go.ChangeAt Go.RowKit

theorem ownNone : ownKnob Tryz.prog.godebug = none := by kernel_rfl

section
variable {H : Type} {enc : TypeId × Value → H} {P : Program}
/-- The row's last step where the call's own world is known by 'Below' alone. -/
theorem post_below {f : Func} {s : ChangeSpec} {apart fresh handsOn again : Bool} {W W' : World} {args : Array Value} {v : Value} {ds gs : List (DataW H)} {before pa pv : List MemPlace}
    (hW : DataW.Whole enc P f.params.toList s.vars apart W args.toList ds gs before)
    (hres : ∀ (b : Nat) (sp : Nat → Bool) (hd : Bool), DataW.TrodAll enc P W' b sp hd f.resultTypes.toList (v.resultList f.resultTypes.size) (s.fn H (ds ++ gs)).results [])
    (hargs : ∀ sp : Nat → Bool, (∀ p ∈ before, sp p.block = true) → DataW.TrodAll enc P W' 0 sp true f.params.toList args.toList (s.fn H (ds ++ gs)).args pa)
    (hvars : ∀ sp : Nat → Bool, (∀ p ∈ before, sp p.block = true) → DataW.TrodVars enc P W' sp s.vars (s.fn H (ds ++ gs)).vars pv)
    (hps : before = pa ++ pv) (hb : Below W.heap.size W W')
    (hok : ∀ (j : Nat) (t : TypeId) (r : Value), f.resultTypes[j]? = some t → (v.resultList f.resultTypes.size)[j]? = some r → Value.okWide P W' .any 0 t r) :
    s.post enc P f apart fresh handsOn again W args v W' := by
  have hlt : ∀ p ∈ before, p.block < W.heap.size := fun p hp => hW.lt p hp
  have hold : ∀ p ∈ before, (fun b => decide (b < W.heap.size)) p.block = true := fun p hp => by simpa using hlt p hp
  refine ⟨ds, gs, before, [], pa, pv, hW, hres _ _ _, hargs _ hold, hvars _ hold, World.keptBut_mono (fun p hp => ⟨hp, ?_⟩) (hb.frame (· ∈ before)), fun _ => ?_⟩
  · rw [hps, List.mem_append] at hp
    exact Or.inr hp
  · obtain ⟨_, _, _, _, _, hz, hn⟩ := hW
    refine ⟨hok, _, _, ([] ++ pa) ++ pv, ⟨[] ++ pa, pv, trodAll_append (hargs _ (fun _ _ => rfl)) (hres _ _ _), hvars _ (fun _ _ => rfl), rfl, ?_, ?_⟩, ?_⟩
    · intro b off hp
      have hin : MemPlace.cell b off ∈ before := by rw [hps]; simpa using hp
      rw [hb.frozen (hlt _ hin)]
      exact hz b off hin
    · intro ha
      have := hn ha
      rw [hps] at this
      simpa using this
    · intro p hp _
      rw [hps]
      simpa using hp
end

theorem gAccepted : Tryz.prog.globalNamed "burnish/validator.accepted" = some 0 := by kernel_rfl
theorem gWidths : Tryz.prog.globalNamed "burnish/intn.widths" = some 2 := by kernel_rfl
theorem tAccepted : (Tryz.prog.globals[0]?).map (·.type) = some 254 := by kernel_rfl
theorem tWidths : (Tryz.prog.globals[2]?).map (·.type) = some 552 := by kernel_rfl

/-- One of the listed variables: what it reads as. -/
theorem laid_of {P : Program} {w : World} : ∀ {l : List (String × DataW Unit)} {ps : List MemPlace} {n : String} {d : DataW Unit}, DataW.LaidVars P w l ps → (n, d) ∈ l →
    ∃ g t cs fuel p, P.globalNamed n = some g ∧ (P.globals[g]?).map (·.type) = some t ∧ w.var? P n = some cs ∧ DataW.trod (fun _ => ()) P w 0 (fun _ => true) false fuel t cs.toList = some (d, p)
  | [], _, _, _, _, hm => by cases hm
  | (n', d') :: r, ps, n, d, h, hm => by
    obtain ⟨g, t, cs, fuel, p, q, h1, h2, h3, h4, h5, _⟩ := h
    rcases List.mem_cons.1 hm with e | hm
    · cases e
      exact ⟨g, t, cs, fuel, p, h1, h2, h3, h4⟩
    · exact laid_of h5 hm

theorem of_laid {W : World} (h : laidMetH Tryz.prog Rows.passmanagerNilRow.laid W) : Shd.GlobOk G49 W.heap.size W := by
  rw [MakeChecks.laidMetH_plain _ _ _ (by kernel_rfl)] at h
  obtain ⟨ps, h, _⟩ := h
  obtain ⟨g0, t0, cs0, f0, p0, hg0, ht0, hv0, hd0⟩ := laid_of (n := "burnish/validator.accepted") (d := Rows.laid_burnish_validator_accepted) h (by simp [Rows.passmanagerNilRow])
  obtain ⟨g2, t2, cs2, f2, p2, hg2, ht2, hv2, hd2⟩ := laid_of (n := "burnish/intn.widths") (d := Rows.laid_burnish_intn_widths) h (by simp [Rows.passmanagerNilRow])
  obtain rfl := Option.some.inj (gAccepted.symm.trans hg0)
  obtain rfl := Option.some.inj (gWidths.symm.trans hg2)
  obtain rfl := Option.some.inj (tAccepted.symm.trans ht0)
  obtain rfl := Option.some.inj (tWidths.symm.trans ht2)
  exact globOk_of gAccepted gWidths hv0 hv2 (accepted_cells hd0) (widths_cells hd2)
end Go.Proofs.YtpdhahkeghblmaaGreatDoor
