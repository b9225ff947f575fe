/- PassmanagerNil returns true at every name of a pass and every module, and leaves its arguments as they were: the row. -/
import Derived.Test.YtpdhahkeghblmaaGreatDoorK5
import Derived.SizedLaws
import Derived.ChangeSlices
namespace Go.Proofs.YtpdhahkeghblmaaGreatDoor
open Go Go.Proofs Go.ChangeShapes Go.WideShapes Go.ChangeAt Go.RowKit

set_option maxRecDepth 100000 in
theorem nil_lifted (os : Os) (started : os.Started) (H : Type) (enc : TypeId × Value → H) :
    ReturnsInHanded {} Tryz.checked os 5 .any (fun w args => (Rows.passmanagerNilSpec.pre enc Tryz.prog Tryz.f5 [] false w args ∧ laidMetH Tryz.prog Rows.passmanagerNilRow.laid w) ∧ sizedMet enc Tryz.prog Tryz.f5 (OpenSpec.ofChange Rows.passmanagerNilSpec) false w args)
      (Rows.passmanagerNilSpec.post enc Tryz.prog Tryz.f5 false true false false) := by
  refine returnsInHanded_of_change_and (C := Tryz.checked) (X := fun w _ => laidMetH Tryz.prog Rows.passmanagerNilRow.laid w) (fun _ _ _ hh h => h.of_heap hh) ownNone started (by kernel_rfl) Tryz.func5
    (ChangeSpec.witness_shaped (enc := enc) (C := Tryz.checked) (os := os) (X := fun w _ => laidMetH Tryz.prog Rows.passmanagerNilRow.laid w) false (start os) #[.string ⟨#[]⟩, .agg #[.slice none 0 0, .slice none 0 0]] 8 rfl (start_shaped os) (by kernel_rfl) (by kernel_rfl) (by kernel_rfl)
      (start_met os)) ?_
  intro W base args ds gs before hval0 hW _ hsz hL _
  have hval : ∀ (j : Nat) t v, Tryz.f5.params[j]? = some t → args[j]? = some v → Value.okWide Tryz.prog W .any base t v := hval0
  have hW' := hW
  obtain ⟨p, q, hA0, hV, rfl, hfz, hnd⟩ := hW
  have hA : DataW.TrodAll enc Tryz.prog W 0 (fun _ => true) true Tryz.f5.params.toList args.toList ds p := hA0
  have hsz' : (DataW.weightsEach Tryz.prog (Tryz.f5.params.toList ++ []) (ds ++ gs)).all (· ≤ reachBytes) = true := hsz
  rw [Tryz.params5] at hA hval hsz'
  obtain ⟨v0, v1, d0, d1, p0, p1, rfl, rfl, rfl, h0, h1⟩ := trodAll_two hA
  obtain ⟨rfl, rfl⟩ := trodVars_none hV
  have hlt : ∀ x ∈ p0 ++ p1, x.block < W.heap.size := fun x hx => hW'.lt x (by simpa using hx)
  obtain ⟨s, rfl, rfl, rfl, ws⟩ := Go.ChangeMaps.open_string Tryz.underlying9 (hval 0 9 v0 rfl rfl) h0
  have hw : ∀ x ∈ d1.weights Tryz.prog 32, x ≤ reachBytes := fun x hx => by
    have := List.all_eq_true.1 hsz' x (DataW.weights_mem_each (j := 1) (t := 32) rfl rfl x hx)
    simpa using this
  have hG := of_laid hL
  clear hA0 hval0 hsz
  obtain ⟨fuel, h1f⟩ := id h1
  simp only [List.append_nil] at hW'
  refine (nil_goes s h1f hw hG).mono fun e W' ⟨he, hB⟩ => ?_
  subst he
  have hsame : ∀ x ∈ p1, W.sameAt W' x := fun x hx => hB.same (hlt x (by simp [hx]))
  refine ⟨_, rfl, post_below (pa := [] ++ p1) (pv := []) hW' (fun _ _ _ => trodAll_mk1 (shut_bool Tryz.underlying4 _)) (fun sp hsp => ?_) (fun _ _ => rfl) (by simp)
    hB (ok_one (by kernel_rfl) rfl (okWide_bool_mk Tryz.underlying4 _))⟩
  exact trodAll_mk2 (Go.ChangeMaps.shut_string Tryz.underlying9 ws)
    (WideElems.Trod_stays laidOutYes (by kernel_rfl) (of_decide_eq_true (by kernel_rfl)) h1 (fun x hx => hsame x hx) (fun x hx => hsp x (by simp [hx])))

theorem nil_holds : Rows.PassmanagerNilSaid :=
  OpenClaim.holds_of_wide (p := Tryz.pinned) (s := Rows.passmanagerNilSpec) (c := Rows.passmanagerNilRow) 5 Tryz.f5 rfl rfl rfl rfl rfl rfl rfl ⟨rfl, rfl, rfl, rfl, rfl⟩ rfl rfl rfl rfl rfl named5 Tryz.func5 facts5
    (of_decide_eq_true (by kernel_rfl)) (by unfold Func.isWrapper; first | (rw [if_pos (by decide +kernel)]; kernel_rfl) | (rw [if_neg (by decide +kernel)]; exact ⟨rfl, rfl⟩))
    (fun os started H enc _ => nil_lifted os started H enc)
#print axioms nil_holds
end Go.Proofs.YtpdhahkeghblmaaGreatDoor
