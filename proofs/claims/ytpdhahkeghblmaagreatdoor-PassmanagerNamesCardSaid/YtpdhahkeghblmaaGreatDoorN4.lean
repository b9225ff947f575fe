/- What Preserved and the reference return at a name: the same strings, or no slice. -/
import Derived.Test.YtpdhahkeghblmaaGreatDoorN2
namespace Go.Proofs.YtpdhahkeghblmaaGreatDoor
open Go Go.Proofs Go.RowKit

def pres : List Value := [str [100, 111, 109, 105, 110, 97, 116, 111, 114, 115], str [108, 111, 111, 112, 115]]
def isSix (l : List UInt8) : Bool := (l == [112, 101, 101, 112, 104, 111, 108, 101]) || (l == [103, 118, 110]) || (l == [115, 116, 114, 101, 110, 103, 116, 104]) || (l == [115, 108, 112]) || (l == [100, 115, 101]) || (l == [108, 111, 97, 100, 101, 108, 105, 109])

theorem pres11_0 (s : ByteArray) (h0 : (s.toList == [112, 101, 101, 112, 104, 111, 108, 101]) = true) (w : World) : Calls Tryz.prog 11 #[.string s] w (Strs w pres) := by
  go_enter Tryz.func11, Tryz.ntmps11
  go_wp2
  go_ret
  exact strs_alloc (l := pres)
theorem pres11_1 (s : ByteArray) (h0 : (s.toList == [112, 101, 101, 112, 104, 111, 108, 101]) = false) (h1 : (s.toList == [103, 118, 110]) = true) (w : World) : Calls Tryz.prog 11 #[.string s] w (Strs w pres) := by
  go_enter Tryz.func11, Tryz.ntmps11
  go_wp2
  go_ret
  exact strs_alloc (l := pres)
theorem pres11_2 (s : ByteArray) (h0 : (s.toList == [112, 101, 101, 112, 104, 111, 108, 101]) = false) (h1 : (s.toList == [103, 118, 110]) = false) (h2 : (s.toList == [115, 116, 114, 101, 110, 103, 116, 104]) = true) (w : World) : Calls Tryz.prog 11 #[.string s] w (Strs w pres) := by
  go_enter Tryz.func11, Tryz.ntmps11
  go_wp2
  go_ret
  exact strs_alloc (l := pres)
theorem pres11_3 (s : ByteArray) (h0 : (s.toList == [112, 101, 101, 112, 104, 111, 108, 101]) = false) (h1 : (s.toList == [103, 118, 110]) = false) (h2 : (s.toList == [115, 116, 114, 101, 110, 103, 116, 104]) = false) (h3 : (s.toList == [115, 108, 112]) = true) (w : World) : Calls Tryz.prog 11 #[.string s] w (Strs w pres) := by
  go_enter Tryz.func11, Tryz.ntmps11
  go_wp2
  go_ret
  exact strs_alloc (l := pres)
theorem pres11_4 (s : ByteArray) (h0 : (s.toList == [112, 101, 101, 112, 104, 111, 108, 101]) = false) (h1 : (s.toList == [103, 118, 110]) = false) (h2 : (s.toList == [115, 116, 114, 101, 110, 103, 116, 104]) = false) (h3 : (s.toList == [115, 108, 112]) = false) (h4 : (s.toList == [100, 115, 101]) = true) (w : World) : Calls Tryz.prog 11 #[.string s] w (Strs w pres) := by
  go_enter Tryz.func11, Tryz.ntmps11
  go_wp2
  go_ret
  exact strs_alloc (l := pres)
theorem pres11_5 (s : ByteArray) (h0 : (s.toList == [112, 101, 101, 112, 104, 111, 108, 101]) = false) (h1 : (s.toList == [103, 118, 110]) = false) (h2 : (s.toList == [115, 116, 114, 101, 110, 103, 116, 104]) = false) (h3 : (s.toList == [115, 108, 112]) = false) (h4 : (s.toList == [100, 115, 101]) = false) (h5 : (s.toList == [108, 111, 97, 100, 101, 108, 105, 109]) = true) (w : World) : Calls Tryz.prog 11 #[.string s] w (Strs w pres) := by
  go_enter Tryz.func11, Tryz.ntmps11
  go_wp2
  go_ret
  exact strs_alloc (l := pres)
theorem pres11_no (s : ByteArray) (h0 : (s.toList == [112, 101, 101, 112, 104, 111, 108, 101]) = false) (h1 : (s.toList == [103, 118, 110]) = false) (h2 : (s.toList == [115, 116, 114, 101, 110, 103, 116, 104]) = false) (h3 : (s.toList == [115, 108, 112]) = false) (h4 : (s.toList == [100, 115, 101]) = false) (h5 : (s.toList == [108, 111, 97, 100, 101, 108, 105, 109]) = false) (w : World) : Calls Tryz.prog 11 #[.string s] w (fun e w' => e = .returned (.slice none 0 0) ∧ w' = w) := by
  go_enter Tryz.func11, Tryz.ntmps11
  go_wp2
  go_ret
  exact ⟨rfl, rfl⟩
theorem pres11 (s : ByteArray) (w : World) : Calls Tryz.prog 11 #[.string s] w (fun e w' => if isSix s.toList then Strs w pres e w' else e = .returned (.slice none 0 0) ∧ w' = w) := by
  by_cases h0 : (s.toList == [112, 101, 101, 112, 104, 111, 108, 101]) = true
  · have hs : isSix s.toList = true := by simp [isSix, h0]
    rw [hs]; exact pres11_0 s h0 w
  by_cases h1 : (s.toList == [103, 118, 110]) = true
  · have hs : isSix s.toList = true := by simp [isSix, h1]
    rw [hs]; exact pres11_1 s (by simpa using h0) h1 w
  by_cases h2 : (s.toList == [115, 116, 114, 101, 110, 103, 116, 104]) = true
  · have hs : isSix s.toList = true := by simp [isSix, h2]
    rw [hs]; exact pres11_2 s (by simpa using h0) (by simpa using h1) h2 w
  by_cases h3 : (s.toList == [115, 108, 112]) = true
  · have hs : isSix s.toList = true := by simp [isSix, h3]
    rw [hs]; exact pres11_3 s (by simpa using h0) (by simpa using h1) (by simpa using h2) h3 w
  by_cases h4 : (s.toList == [100, 115, 101]) = true
  · have hs : isSix s.toList = true := by simp [isSix, h4]
    rw [hs]; exact pres11_4 s (by simpa using h0) (by simpa using h1) (by simpa using h2) (by simpa using h3) h4 w
  by_cases h5 : (s.toList == [108, 111, 97, 100, 101, 108, 105, 109]) = true
  · have hs : isSix s.toList = true := by simp [isSix, h5]
    rw [hs]; exact pres11_5 s (by simpa using h0) (by simpa using h1) (by simpa using h2) (by simpa using h3) (by simpa using h4) h5 w
  have hs : isSix s.toList = false := by simp only [isSix, Bool.or_eq_false_iff]; simp only [Bool.not_eq_true] at h0 h1 h2 h3 h4 h5; exact ⟨⟨⟨⟨⟨h0, h1⟩, h2⟩, h3⟩, h4⟩, h5⟩
  rw [hs]; exact pres11_no s (by simpa using h0) (by simpa using h1) (by simpa using h2) (by simpa using h3) (by simpa using h4) (by simpa using h5) w
theorem pres12_0 (s : ByteArray) (h0 : (s.toList == [112, 101, 101, 112, 104, 111, 108, 101]) = true) (w : World) : Calls Tryz.prog 12 #[.string s] w (Strs w pres) := by
  go_enter Tryz.func12, Tryz.ntmps12
  go_wp2
  go_ret
  exact strs_alloc (l := pres)
theorem pres12_1 (s : ByteArray) (h0 : (s.toList == [112, 101, 101, 112, 104, 111, 108, 101]) = false) (h1 : (s.toList == [103, 118, 110]) = true) (w : World) : Calls Tryz.prog 12 #[.string s] w (Strs w pres) := by
  go_enter Tryz.func12, Tryz.ntmps12
  go_wp2
  go_ret
  exact strs_alloc (l := pres)
theorem pres12_2 (s : ByteArray) (h0 : (s.toList == [112, 101, 101, 112, 104, 111, 108, 101]) = false) (h1 : (s.toList == [103, 118, 110]) = false) (h2 : (s.toList == [115, 116, 114, 101, 110, 103, 116, 104]) = true) (w : World) : Calls Tryz.prog 12 #[.string s] w (Strs w pres) := by
  go_enter Tryz.func12, Tryz.ntmps12
  go_wp2
  go_ret
  exact strs_alloc (l := pres)
theorem pres12_3 (s : ByteArray) (h0 : (s.toList == [112, 101, 101, 112, 104, 111, 108, 101]) = false) (h1 : (s.toList == [103, 118, 110]) = false) (h2 : (s.toList == [115, 116, 114, 101, 110, 103, 116, 104]) = false) (h3 : (s.toList == [115, 108, 112]) = true) (w : World) : Calls Tryz.prog 12 #[.string s] w (Strs w pres) := by
  go_enter Tryz.func12, Tryz.ntmps12
  go_wp2
  go_ret
  exact strs_alloc (l := pres)
theorem pres12_4 (s : ByteArray) (h0 : (s.toList == [112, 101, 101, 112, 104, 111, 108, 101]) = false) (h1 : (s.toList == [103, 118, 110]) = false) (h2 : (s.toList == [115, 116, 114, 101, 110, 103, 116, 104]) = false) (h3 : (s.toList == [115, 108, 112]) = false) (h4 : (s.toList == [100, 115, 101]) = true) (w : World) : Calls Tryz.prog 12 #[.string s] w (Strs w pres) := by
  go_enter Tryz.func12, Tryz.ntmps12
  go_wp2
  go_ret
  exact strs_alloc (l := pres)
theorem pres12_5 (s : ByteArray) (h0 : (s.toList == [112, 101, 101, 112, 104, 111, 108, 101]) = false) (h1 : (s.toList == [103, 118, 110]) = false) (h2 : (s.toList == [115, 116, 114, 101, 110, 103, 116, 104]) = false) (h3 : (s.toList == [115, 108, 112]) = false) (h4 : (s.toList == [100, 115, 101]) = false) (h5 : (s.toList == [108, 111, 97, 100, 101, 108, 105, 109]) = true) (w : World) : Calls Tryz.prog 12 #[.string s] w (Strs w pres) := by
  go_enter Tryz.func12, Tryz.ntmps12
  go_wp2
  go_ret
  exact strs_alloc (l := pres)
theorem pres12_no (s : ByteArray) (h0 : (s.toList == [112, 101, 101, 112, 104, 111, 108, 101]) = false) (h1 : (s.toList == [103, 118, 110]) = false) (h2 : (s.toList == [115, 116, 114, 101, 110, 103, 116, 104]) = false) (h3 : (s.toList == [115, 108, 112]) = false) (h4 : (s.toList == [100, 115, 101]) = false) (h5 : (s.toList == [108, 111, 97, 100, 101, 108, 105, 109]) = false) (w : World) : Calls Tryz.prog 12 #[.string s] w (fun e w' => e = .returned (.slice none 0 0) ∧ w' = w) := by
  go_enter Tryz.func12, Tryz.ntmps12
  go_wp2
  go_ret
  exact ⟨rfl, rfl⟩
theorem pres12 (s : ByteArray) (w : World) : Calls Tryz.prog 12 #[.string s] w (fun e w' => if isSix s.toList then Strs w pres e w' else e = .returned (.slice none 0 0) ∧ w' = w) := by
  by_cases h0 : (s.toList == [112, 101, 101, 112, 104, 111, 108, 101]) = true
  · have hs : isSix s.toList = true := by simp [isSix, h0]
    rw [hs]; exact pres12_0 s h0 w
  by_cases h1 : (s.toList == [103, 118, 110]) = true
  · have hs : isSix s.toList = true := by simp [isSix, h1]
    rw [hs]; exact pres12_1 s (by simpa using h0) h1 w
  by_cases h2 : (s.toList == [115, 116, 114, 101, 110, 103, 116, 104]) = true
  · have hs : isSix s.toList = true := by simp [isSix, h2]
    rw [hs]; exact pres12_2 s (by simpa using h0) (by simpa using h1) h2 w
  by_cases h3 : (s.toList == [115, 108, 112]) = true
  · have hs : isSix s.toList = true := by simp [isSix, h3]
    rw [hs]; exact pres12_3 s (by simpa using h0) (by simpa using h1) (by simpa using h2) h3 w
  by_cases h4 : (s.toList == [100, 115, 101]) = true
  · have hs : isSix s.toList = true := by simp [isSix, h4]
    rw [hs]; exact pres12_4 s (by simpa using h0) (by simpa using h1) (by simpa using h2) (by simpa using h3) h4 w
  by_cases h5 : (s.toList == [108, 111, 97, 100, 101, 108, 105, 109]) = true
  · have hs : isSix s.toList = true := by simp [isSix, h5]
    rw [hs]; exact pres12_5 s (by simpa using h0) (by simpa using h1) (by simpa using h2) (by simpa using h3) (by simpa using h4) h5 w
  have hs : isSix s.toList = false := by simp only [isSix, Bool.or_eq_false_iff]; simp only [Bool.not_eq_true] at h0 h1 h2 h3 h4 h5; exact ⟨⟨⟨⟨⟨h0, h1⟩, h2⟩, h3⟩, h4⟩, h5⟩
  rw [hs]; exact pres12_no s (by simpa using h0) (by simpa using h1) (by simpa using h2) (by simpa using h3) (by simpa using h4) (by simpa using h5) w
end Go.Proofs.YtpdhahkeghblmaaGreatDoor
