/-
Contracts of ConfirmedTracks and StartTrack, over plain data.
No condition but those that the contracts name.
-/
import Derived.Test.YtnbkmfbnlodikaaD0
namespace Go.Proofs.Ytnbkmfbnlodikaa
open Eng
set_option linter.unusedSimpArgs false
set_option linter.unusedVariables false
def cfF (ts : List Trk) (us : List It) (i : Int) : List It := if (tk ts i).s == 1 then us else us ++ [⟨(tk ts i).i⟩]
def cfR (ts : List Trk) : List It := foldI (cfF ts) [] 0 ts.length
def cfV (ts : List Trk) : List It := if tlB ts = true then cfR ts else []
theorem cfV_yes {ts : List Trk} (h : tlB ts = true) : cfV ts = cfR ts := by simp [cfV, h]
theorem cfV_no {ts : List Trk} (h : tlB ts = false) : cfV ts = [] := by simp [cfV, h]
theorem cf_no {ts : List Trk} {us : List It} {i : Int} (h : ((tk ts i).s == 1) = true) : us = cfF ts us i := (if_pos h).symm
theorem cf_yes {ts : List Trk} {us : List It} {i : Int} (h : ((tk ts i).s == 1) = false) : us ++ [⟨(tk ts i).i⟩] = cfF ts us i := (if_neg (by rw [h]; decide)).symm
theorem tlB_len {ts : List Trk} (h : tlB ts = true) : (ts.length : Int) ≤ 6 := by
  simp only [tlB, Bool.and_eq_true, decide_eq_true_eq] at h; omega
theorem cfR_len {ts : List Trk} : (cfR ts).length ≤ ts.length := by
  have h := foldI_ind (f := cfF ts) (n := ts.length) (fun (us : List It) i => (us.length : Int) ≤ i) (a := []) (i := 0) (by omega) (by simp) (fun a j h1 h2 h => by
    (try simp only [] at h ⊢)
    unfold cfF; split
    · omega
    · simp; omega)
  (try simp only [] at h)
  unfold cfR; omega
theorem cfV_len {ts : List Trk} : (cfV ts).length ≤ 1048576 := by
  unfold cfV; split
  · rename_i h; have := tlB_len h; have := cfR_len (ts := ts); omega
  · simp


end Go.Proofs.Ytnbkmfbnlodikaa
