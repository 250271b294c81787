/-
Contracts of HitTrack and MissTrack, over plain data, and their laws.
No condition but those that the contracts name.
-/
import Derived.Test.YtnbkmfbnlodikaaT7
namespace Go.Proofs.Ytnbkmfbnlodikaa
open Eng
set_option linter.unusedSimpArgs false
set_option linter.unusedVariables false
def hitV (t : Trk) (x y : Int) : Trk := ⟨t.i, hitS t.h, x, y, w64 (t.h + 1), 0⟩
def hiL (ts : List Trk) (id x y : Int) : List Trk := ts.set (fdI ts id).toNat (hitV (tk ts (fdI ts id)) x y)
def hiO (ts : List Trk) (id x y : Int) : Bool := tlB ts && placeB x y && !decide (fdI ts id < 0) && tlB (hiL ts id x y)
def hiV (ts : List Trk) (id x y : Int) : List Trk := if hiO ts id x y = true then hiL ts id x y else []
theorem hi_no {ts : List Trk} {id x y : Int} (h : hiO ts id x y = false) : hiV ts id x y = [] := by simp [hiV, h]
theorem hi_yes {ts : List Trk} {id x y : Int} (h : hiO ts id x y = true) : hiV ts id x y = ts.set (fdI ts id).toNat ⟨(ts.getD (fdI ts id).toNat default).i, hitS (ts.getD (fdI ts id).toNat default).h, x, y, w64 ((ts.getD (fdI ts id).toNat default).h + 1), 0⟩ := by simp [hiV, h]; rfl
theorem hi_n1 {ts : List Trk} {id x y : Int} (h : tlB ts = false) : hiO ts id x y = false := by simp [hiO, h]
theorem hi_n2 {ts : List Trk} {id x y : Int} (h : placeB x y = false) : hiO ts id x y = false := by simp [hiO, h]
theorem hi_n3 {ts : List Trk} {id x y : Int} (h : fdI ts id < 0) : hiO ts id x y = false := by simp [hiO, h]
theorem hi_n4 {ts : List Trk} {id x y : Int} (h : tlB (ts.set (fdI ts id).toNat ⟨(ts.getD (fdI ts id).toNat default).i, hitS (ts.getD (fdI ts id).toNat default).h, x, y, w64 ((ts.getD (fdI ts id).toNat default).h + 1), 0⟩) = false) : hiO ts id x y = false := by
  have h' : tlB (hiL ts id x y) = false := h
  simp [hiO, h']
theorem hi_y {ts : List Trk} {id x y : Int} (h1 : ¬ tlB ts = false) (h2 : ¬ placeB x y = false) (h3 : ¬ fdI ts id < 0) (h : ¬ tlB (ts.set (fdI ts id).toNat ⟨(ts.getD (fdI ts id).toNat default).i, hitS (ts.getD (fdI ts id).toNat default).h, x, y, w64 ((ts.getD (fdI ts id).toNat default).h + 1), 0⟩) = false) : hiO ts id x y = true := by
  have h' : ¬ tlB (hiL ts id x y) = false := h
  simp only [hiO, Bool.and_eq_true, Bool.not_eq_true', decide_eq_false_iff_not]
  exact ⟨⟨⟨by simpa using h1, by simpa using h2⟩, h3⟩, by simpa using h'⟩
theorem hiV_len {ts : List Trk} {id x y : Int} : (hiV ts id x y).length ≤ 1048576 := by
  unfold hiV; split
  · rename_i h
    simp only [hiO, Bool.and_eq_true] at h
    have := tlB_len h.2; omega
  · simp


end Go.Proofs.Ytnbkmfbnlodikaa
