/-
Plain laws on updates: a track that takes a plot is where the plot is.
No condition but those that the statements name.
-/
import Derived.Test.YtnbkmfbnlodikaaE12
import Derived.Test.YtnbkmfbnlodikaaE10
import Derived.Test.YtnbkmfbnlodikaaT16
namespace Go.Proofs.Ytnbkmfbnlodikaa
open Eng
set_option linter.unusedSimpArgs false
set_option linter.unusedVariables false
section
variable {ts us : List Trk} {ps qs : List Plc} {g i k n : Int} {fs bs xs : List It} {t : Trk}
theorem pl_app (h0 : 0 ≤ i) (h : i < ps.length) : pl (ps ++ qs) i = pl ps i := by
  unfold pl
  simp only [List.getD]
  rw [List.getElem?_append_left (by omega)]
theorem pl_last {p : Plc} : pl (ps ++ [p]) ps.length = p := by
  unfold pl
  simp [List.getD]
theorem upGo_mem (h : t ∈ us) : t ∈ upGo ps fs us k n := by
  have key : ∀ (m : Nat) (k : Int) (us : List Trk), (n - k).toNat ≤ m → t ∈ us → t ∈ upGo ps fs us k n := by
    intro m
    induction m with
    | zero => intro k us h h1; rw [upGo.eq_1, if_neg (by omega)]; exact h1
    | succ m ih =>
      intro k us h h1
      rw [upGo.eq_1]
      split
      · split
        · rename_i hs
          refine ih _ _ (by omega) ?_
          rw [(st_yes hs).1]
          exact List.mem_append_left _ h1
        · exact h1
      · exact h1
  exact key _ k us (Nat.le_refl _) h
theorem scR_mem (h0 : 0 ≤ i) (h1 : i < ts.length) (h : scS ts xs i xs.length = true) : scT ts ps xs i xs.length ∈ (scR ts ps xs).1 := by
  have key := foldI_ind (f := snF ts ps xs) (n := ts.length) (fun (q : List Trk × Int) j => ∀ i : Int, 0 ≤ i → i < j → scS ts xs i xs.length = true → scT ts ps xs i xs.length ∈ q.1) (a := ([], 0)) (i := 0) (by omega) (fun i h0 h1 => by omega) (fun a j h1 h2 h => by
    (try simp only [] at h ⊢)
    intro i h3 h4 h5
    unfold snF
    by_cases e : i = j
    · subst e
      rw [if_pos h5]; exact List.mem_append_right _ (by simp)
    · have := h i h3 (by omega) h5
      split
      · exact List.mem_append_left _ this
      · split
        · exact List.mem_append_left _ this
        · exact this)
  exact key i h0 h1 h
/-- what is told of the hits that are handed to a scan -/
theorem upF_inv (bs : List It) : ((foldI (upF ts ps bs) ([], []) 0 ts.length).1.length = (foldI (upF ts ps bs) ([], []) 0 ts.length).2.length) ∧
    (∀ m : Int, 0 ≤ m → m < (foldI (upF ts ps bs) ([], []) 0 ts.length).1.length → ∃ i : Int, (0 ≤ i ∧ i < ts.length) ∧ ig (foldI (upF ts ps bs) ([], []) 0 ts.length).1 m = (tk ts i).i ∧ pl (foldI (upF ts ps bs) ([], []) 0 ts.length).2 m = pl ps (ig bs i)) ∧
    (∀ i : Int, 0 ≤ i → i < ts.length → 0 ≤ ig bs i → ∃ m : Int, (0 ≤ m ∧ m < (foldI (upF ts ps bs) ([], []) 0 ts.length).1.length) ∧ ig (foldI (upF ts ps bs) ([], []) 0 ts.length).1 m = (tk ts i).i) := by
  have key := foldI_ind (f := upF ts ps bs) (n := ts.length) (fun (q : List It × List Plc) j => q.1.length = q.2.length ∧
    (∀ m : Int, 0 ≤ m → m < q.1.length → ∃ i : Int, (0 ≤ i ∧ i < j) ∧ ig q.1 m = (tk ts i).i ∧ pl q.2 m = pl ps (ig bs i)) ∧
    (∀ i : Int, 0 ≤ i → i < j → 0 ≤ ig bs i → ∃ m : Int, (0 ≤ m ∧ m < q.1.length) ∧ ig q.1 m = (tk ts i).i)) (a := ([], [])) (i := 0) (by omega)
    ⟨rfl, fun m h0 h1 => by simp at h1; omega, fun i h0 h1 => by omega⟩ (fun a j h1 h2 h => by
    (try simp only [] at h ⊢)
    obtain ⟨e, ha, hb⟩ := h
    unfold upF
    split
    · rename_i hc
      refine ⟨by simp [e], ?_, ?_⟩
      · intro m h3 h4
        by_cases em : m = a.1.length
        · subst em
          refine ⟨j, by omega, ig_last, ?_⟩
          rw [e]; exact pl_last
        · simp only [List.length_append, List.length_cons, List.length_nil] at h4
          obtain ⟨i, h5, h6, h7⟩ := ha m h3 (by omega)
          refine ⟨i, by omega, ?_, ?_⟩
          · rw [ig_app h3 (by omega)]; exact h6
          · rw [pl_app h3 (by omega)]; exact h7
      · intro i h3 h4 h5
        by_cases ei : i = j
        · subst ei
          exact ⟨a.1.length, by simp; omega, ig_last⟩
        · obtain ⟨m, h6, h7⟩ := hb i h3 (by omega) h5
          refine ⟨m, by simp; omega, ?_⟩
          rw [ig_app h6.1 h6.2]; exact h7
    · rename_i hc
      refine ⟨e, fun m h3 h4 => ?_, fun i h3 h4 h5 => ?_⟩
      · obtain ⟨i, h5, h6⟩ := ha m h3 h4
        exact ⟨i, by omega, h6⟩
      · by_cases ei : i = j
        · subst ei; exact absurd h5 hc
        · exact hb i h3 (by omega) h5)
  exact key
theorem hxR_has {id : Int} {m : Int} (h0 : 0 ≤ m) (h1 : m < k) (h2 : ig xs m = id) : 0 ≤ hxR xs id k := by
  have key := foldI_ind (f := hxF xs id) (n := k) (fun (q : Int) j => ∀ m : Int, 0 ≤ m → m < j → ig xs m = id → 0 ≤ q) (a := -1) (i := 0) (by omega) (fun i h0 h1 => by omega) (fun a j h1 h2 h => by
    (try simp only [] at h ⊢)
    intro m h3 h4 h5
    unfold hxF
    split
    · exact h1
    · rename_i hc
      by_cases e : m = j
      · subst e; simp [h5] at hc
      · exact h m h3 (by omega) h5)
  exact key m h0 h1 h2
theorem up_hit (h : upO ts ps g = true) (h0 : 0 ≤ i) (h1 : i < ts.length) (h2 : 0 ≤ k) (h3 : k < (upV ts ps g).length) (e : (tk (upV ts ps g) k).i = (tk ts i).i) (hb : 0 ≤ ig (baV ts ps g) i) :
    (tk (upV ts ps g) k).x = (pl ps (ig (baV ts ps g) i)).x ∧ (tk (upV ts ps g) k).y = (pl ps (ig (baV ts ps g) i)).y ∧ (tk (upV ts ps g) k).l = 0 := by
  have ho := h
  simp only [upO, Bool.and_eq_true] at h
  have eb : baV ts ps g = upB ts ps g := baV_yes h.1
  rw [eb] at hb ⊢
  obtain ⟨_, iA, iB⟩ := upF_inv (ts := ts) (ps := ps) (upB ts ps g)
  have eR : foldI (upF ts ps (upB ts ps g)) ([], []) 0 ts.length = upR ts ps g := rfl
  rw [eR] at iA iB
  have hT : tlB ts = true := by
    have := h.2
    simp only [scO, Bool.and_eq_true] at this
    exact this.1.1.1.1
  obtain ⟨m, hm, hm2⟩ := iB i h0 h1 hb
  have hx := hxR_has (xs := (upR ts ps g).1) (k := (upR ts ps g).1.length) hm.1 hm.2 hm2
  rcases hxR_rng (xs := (upR ts ps g).1) (i := (tk ts i).i) (k := (upR ts ps g).1.length) (by omega) with hr | ⟨r1, r2, r3⟩
  · omega
  · obtain ⟨i', q1, q2, q3⟩ := iA _ r1 r2
    have ei : i' = i := tl_inj hT q1.1 q1.2 h0 h1 (by rw [← q2, r3])
    subst ei
    have hs : scS ts (upR ts ps g).1 i' (upR ts ps g).1.length = true := decide_eq_true hx
    have hv : scT ts (upR ts ps g).2 (upR ts ps g).1 i' (upR ts ps g).1.length = hitV (tk ts i') (pl ps (ig (upB ts ps g) i')).x (pl ps (ig (upB ts ps g) i')).y := by
      unfold scT; rw [if_pos hx, q3]
    have hmem := scR_mem (ps := (upR ts ps g).2) h0 h1 hs
    rw [hv, ← (sc_yes h.2).1] at hmem
    have hP : upV ts ps g = upP ts ps g := (up_y h.1 h.2).2
    have hmem2 : hitV (tk ts i') (pl ps (ig (upB ts ps g) i')).x (pl ps (ig (upB ts ps g) i')).y ∈ upV ts ps g := by
      rw [hP]; exact upGo_mem hmem
    obtain ⟨k', g1, g2, g3⟩ := mem_tk hmem2
    have hU : tlB (upV ts ps g) = true := by rw [hP]; exact upGo_tl (scV_tl h.2)
    have ek : k' = k := tl_inj hU g1 g2 h2 h3 (by rw [g3, e]; rfl)
    subst ek
    rw [g3]; exact ⟨rfl, rfl, rfl⟩
theorem up_tl (h : upO ts ps g = true) : tlB (upV ts ps g) = true ∧ asB ts ps g = true := by
  simp only [upO, Bool.and_eq_true] at h
  have hP : upV ts ps g = upP ts ps g := (up_y h.1 h.2).2
  exact ⟨by rw [hP]; exact upGo_tl (scV_tl h.2), h.1⟩
end
end Go.Proofs.Ytnbkmfbnlodikaa
