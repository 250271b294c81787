/-
Contracts of what reads the line of a track, over plain data.
No condition but those that the contracts name.
-/
import Derived.Test.YtejahpnbplcgnaaT21
import Derived.Test.YtejahpnbplcgnaaVX
namespace Go.Proofs.Ytejahpnbplcgnaa
open Eng
set_option linter.unusedSimpArgs false
set_option linter.unusedVariables false
/-- the texts of a literal list -/
def unS : List (List AV) → List Sg
  | [] => []
  | e :: es => ⟨match e with | [.v (.string b)] => b | _ => ByteArray.empty⟩ :: unS es
theorem unS_nil : unS [] = [] := (rfl)
theorem unS_cons {b : ByteArray} {es : List (List AV)} : unS ([vs b] :: es) = ⟨b⟩ :: unS es := (rfl)
theorem GC.frzT {P : Program} {k : FuncId} {hp : List Ent} {id len : Nat} {elems : List (List AV)} {K : AV → List Ent → Prop} (he : hp[id]? = some (.arr 1 elems)) (hx : elems = (unS elems).map Sg.e) (hl : len ≤ elems.length)
    (h : GC P k [.sl 1 (((unS elems).take len).map Sg.e)] (hp.set id .dead) K) : GC P k [.ref id len] hp K := by
  generalize unS elems = xs at hx h
  subst hx
  rw [List.map_take] at h
  have hr : rep1 id len (.sl 1 ((xs.map Sg.e).take len)) [.ref id len] [.sl 1 ((xs.map Sg.e).take len)] := ⟨.inr ⟨rfl, rfl⟩, trivial⟩
  exact GC.frz1 he Sg.pl hl hr h
section
variable {t : ByteArray} {n : Int} {k : Nat}
theorem spL_sz {cur l : List UInt8} : ∀ w ∈ spL n cur l, w.length ≤ cur.length + l.length := by
  induction l generalizing cur with
  | nil => intro w hw; simp [spL] at hw; subst hw; simp
  | cons x xs ih =>
    intro w hw
    unfold spL at hw
    split at hw
    · rcases List.mem_cons.1 hw with rfl | hw
      · simp
      · have := ih w hw; simp at this ⊢; omega
    · have := ih w hw; simp at this ⊢; omega
theorem wd_sz : ((splS t n).getD k default).b.size ≤ t.size := by
  by_cases hk : k < (splS t n).length
  · have e : (splS t n).getD k default = (splS t n)[k] := by simp [List.getD, List.getElem?_eq_getElem hk]
    rw [e]
    have hm := List.getElem_mem hk
    generalize (splS t n)[k] = w at hm
    unfold splS at hm
    obtain ⟨l, hl, rfl⟩ := List.mem_map.1 hm
    have h2 := spL_sz l hl
    have h3 : (mkS l).size = l.length := by rw [← bs_len, bs_mkS]
    rw [h3]; rw [bs_len] at h2; simpa using h2
  · have e : (splS t n).getD k default = default := by simp [List.getD, List.getElem?_eq_none (Nat.le_of_not_lt hk)]
    rw [e]; exact Nat.zero_le _
end
/-- what is told of a text: the track of which it is the line -/
structure PtP (t : ByteArray) (i s x y h l : Int) (b : Bool) : Prop where
  yes : b = true → trB i s x y h l = true ∧ t = lineS i s x y h l
  no : b = false → i = 0 ∧ s = 0 ∧ x = 0 ∧ y = 0 ∧ h = 0 ∧ l = 0
  all : ∀ i' s' x' y' h' l' : Int, trB i' s' x' y' h' l' = true → t = lineS i' s' x' y' h' l' → b = true ∧ i = i' ∧ s = s' ∧ x = x' ∧ y = y' ∧ h = h' ∧ l = l'
def wdW : List Sg := [⟨⟨#[]⟩⟩, ⟨⟨#[110, 101, 119]⟩⟩, ⟨⟨#[99, 111, 110, 102, 105, 114, 109, 101, 100]⟩⟩, ⟨⟨#[99, 111, 97, 115, 116, 105, 110, 103]⟩⟩]
def wdJ (w : ByteArray) (k st : Int) : Prop := ∀ s : Int, (s = 1 ∨ s = 2 ∨ s = 3) → w = wordS s → st = if s < k then s else 0
section
variable {t w : ByteArray} {i s x y h l k st : Int} {ns : List It} {b : Bool}
theorem wd_zero : wdJ w 0 0 := by
  intro s hs e
  rw [if_neg (by omega)]
theorem wd_eq (h0 : 0 ≤ k ∧ k < 4) (hs : s = 1 ∨ s = 2 ∨ s = 3) : ((wdW.getD k.toNat default).b.toList == (wordS s).toList) = decide (k = s) := by
  have : k = 0 ∨ k = 1 ∨ k = 2 ∨ k = 3 := by omega
  rcases this with rfl | rfl | rfl | rfl <;> rcases hs with rfl | rfl | rfl <;> (rw [ByteArray.toList_eq, ByteArray.toList_eq]; decide)
theorem wd_hit (h0 : 0 ≤ k ∧ k < 4) (hJ : wdJ w k st) (hq : ((wdW.getD k.toNat default).b.toList == w.toList) = true) : wdJ w (k + 1) k := by
  intro s hs e
  rw [e, wd_eq h0 hs] at hq
  have : k = s := by simpa using hq
  rw [if_pos (by omega)]; exact this
theorem wd_go (h0 : 0 ≤ k ∧ k < 4) (hJ : wdJ w k st) (hq : ¬ ((wdW.getD k.toNat default).b.toList == w.toList) = true) : wdJ w (k + 1) st := by
  intro s hs e
  rw [e, wd_eq h0 hs] at hq
  have h1 : ¬ k = s := by simpa using hq
  rw [hJ s hs e]
  by_cases h2 : s < k
  · rw [if_pos h2, if_pos (by omega)]
  · rw [if_neg h2, if_neg (by omega)]
theorem im4 (P : PtF t i s x y h l) (hc : nbsC [⟨((splS t 32).getD 0 default).b⟩, ⟨((splS ((splS t 32).getD 3 default).b 44).getD 0 default).b⟩, ⟨((splS ((splS t 32).getD 3 default).b 44).getD 1 default).b⟩, ⟨((splS t 32).getD 5 default).b⟩] ns b) :
    b = true ∧ (ns.getD 0 default).n = i ∧ (ns.getD 1 default).n = x ∧ (ns.getD 2 default).n = y ∧ (ns.getD 3 default).n = h := by
  have hr := P.rg
  obtain ⟨e, hb⟩ := hc.1 [i.toNat, x.toNat, y.toNat, h.toNat] (by intro j hj; simp at hj; omega) (by rw [P.w0, P.w3, P.w5]; rfl)
  subst e
  refine ⟨hb, ?_, ?_, ?_, ?_⟩
  · show ((i.toNat : Nat) : Int) = i; omega
  · show ((x.toNat : Nat) : Int) = x; omega
  · show ((y.toNat : Nat) : Int) = y; omega
  · show ((h.toNat : Nat) : Int) = h; omega
theorem im5 (P : PtF t i s x y h l) (hl : ¬ l = 0) (hc : nbsC [⟨((splS t 32).getD 0 default).b⟩, ⟨((splS ((splS t 32).getD 3 default).b 44).getD 0 default).b⟩, ⟨((splS ((splS t 32).getD 3 default).b 44).getD 1 default).b⟩, ⟨((splS t 32).getD 5 default).b⟩, ⟨((splS t 32).getD 7 default).b⟩] ns b) :
    b = true ∧ (ns.getD 0 default).n = i ∧ (ns.getD 1 default).n = x ∧ (ns.getD 2 default).n = y ∧ (ns.getD 3 default).n = h ∧ (ns.getD 4 default).n = l := by
  have hr := P.rg
  obtain ⟨e, hb⟩ := hc.1 [i.toNat, x.toNat, y.toNat, h.toNat, l.toNat] (by intro j hj; simp at hj; omega) (by rw [P.w0, P.w3, P.w5, P.w7 hl]; rfl)
  subst e
  refine ⟨hb, ?_, ?_, ?_, ?_, ?_⟩
  · show ((i.toNat : Nat) : Int) = i; omega
  · show ((x.toNat : Nat) : Int) = x; omega
  · show ((y.toNat : Nat) : Int) = y; omega
  · show ((h.toNat : Nat) : Int) = h; omega
  · show ((l.toNat : Nat) : Int) = l; omega
theorem wd_fin (P : PtF t i s x y h l) (hk : 0 ≤ k ∧ k ≤ 4) (h1 : ¬ k < 4) (hJ : wdJ ((splS t 32).getD 1 default).b k st) : st = s := by
  have := hJ s P.st P.w1
  have hs := P.st
  rw [this, if_pos (by omega)]
theorem len8 (h : ¬ ((((splS t 32).length : Int) != 8) = true)) : (splS t 32).length = 8 := by
  have : ((splS t 32).length : Int) = 8 := by simpa using h
  omega
theorem len8' (h : (((splS t 32).length : Int) == 8) = true) : (splS t 32).length = 8 := by
  have : ((splS t 32).length : Int) = 8 := by simpa using h
  omega
theorem len6 (h : ¬ ((((splS t 32).length : Int) != 6) = true)) : (splS t 32).length = 6 := by
  have : ((splS t 32).length : Int) = 6 := by simpa using h
  omega
theorem len68 (P : PtF t i s x y h l) (h1 : (((splS t 32).length : Int) != 6) = true) (h2 : (((splS t 32).length : Int) != 8) = true) : False := by
  have e1 : ¬ ((splS t 32).length : Int) = 6 := by simpa using h1
  have e2 : ¬ ((splS t 32).length : Int) = 8 := by simpa using h2
  by_cases hl : l = 0
  · have := P.len.1 hl; omega
  · have := P.len.2 hl; omega
theorem len44 (P : PtF t i s x y h l) (h1 : (((splS ((splS t 32).getD 3 default).b 44).length : Int) != 2) = true) : False := by
  rw [P.w3] at h1; simp at h1
theorem l_of8 (P : PtF t i s x y h l) (h1 : (splS t 32).length = 8) : ¬ l = 0 := fun hl => by have := P.len.1 hl; omega
theorem l_of6 (P : PtF t i s x y h l) (h1 : (splS t 32).length = 6) : l = 0 := by
  by_cases hl : l = 0
  · exact hl
  · have := P.len.2 hl; omega
theorem tl_eq {u v : ByteArray} (h : ¬ (u.toList == v.toList) = false) : v = u := by
  have h1 : u.toList = v.toList := by simpa using h
  rw [ByteArray.toList_eq, ByteArray.toList_eq] at h1
  exact (bs_inj h1).symm
theorem sz4 (hl : t.size ≤ 1048576) : ∀ w ∈ ([⟨((splS t 32).getD 0 default).b⟩, ⟨((splS ((splS t 32).getD 3 default).b 44).getD 0 default).b⟩, ⟨((splS ((splS t 32).getD 3 default).b 44).getD 1 default).b⟩, ⟨((splS t 32).getD 5 default).b⟩] : List Sg), w.b.size ≤ 1048576 := by
  intro w hw
  simp only [List.mem_cons, List.not_mem_nil, or_false] at hw
  rcases hw with rfl | rfl | rfl | rfl
  · exact Nat.le_trans wd_sz hl
  · exact Nat.le_trans wd_sz (Nat.le_trans wd_sz hl)
  · exact Nat.le_trans wd_sz (Nat.le_trans wd_sz hl)
  · exact Nat.le_trans wd_sz hl
theorem sz5 (hl : t.size ≤ 1048576) : ∀ w ∈ ([⟨((splS t 32).getD 0 default).b⟩, ⟨((splS ((splS t 32).getD 3 default).b 44).getD 0 default).b⟩, ⟨((splS ((splS t 32).getD 3 default).b 44).getD 1 default).b⟩, ⟨((splS t 32).getD 5 default).b⟩, ⟨((splS t 32).getD 7 default).b⟩] : List Sg), w.b.size ≤ 1048576 := by
  intro w hw
  simp only [List.mem_cons, List.not_mem_nil, or_false] at hw
  rcases hw with rfl | rfl | rfl | rfl | rfl
  · exact Nat.le_trans wd_sz hl
  · exact Nat.le_trans wd_sz (Nat.le_trans wd_sz hl)
  · exact Nat.le_trans wd_sz (Nat.le_trans wd_sz hl)
  · exact Nat.le_trans wd_sz hl
  · exact Nat.le_trans wd_sz hl
end
set_option maxRecDepth 100000 in
set_option maxHeartbeats 4000000 in
theorem impParse_gc {t : ByteArray} (hl : t.size ≤ 1048576) : GC Try.prog 39 [vs t] [] (fun r_ hs_ => ∃ (i s x y h l : Int) (b : Bool), (PtP t i s x y h l b) ∧ r_ = .tup [.agg [vi i, vi s, vi x, vi y, vi h, vi l], vb b] ∧ hs_ = []) := by
  refine GC.of_func [(7, .val 0 (.val 1 (.val 2 (.val 3 (.val 4 (.val 5 (.val 6 (.val 7 (.val 8 (.val 9 (.val 10 (.val 11 (.eff [(12, [], .val 13 (.done))]))))))))))))), (13, .val 0 (.val 1 (.val 2 (.val 3 (.val 4 (.val 5 (.val 6 (.val 7 (.val 8 (.val 9 (.val 10 (.val 11 (.val 12 (.eff [(13, [12, 11, 10, 9, 8, 7, 6, 5, 4, 3, 2, 1, 0], .eff [(14, [], .done)])]))))))))))))))] Try.call39 Try.func39 rfl ⟨by kernel_rfl, by kernel_rfl⟩ (by kernel_rfl) ?_
  rw [Try.results39]
  simp -implicitDefEqProofs (maxSteps := 4000000) only [sim0, sim1, sim2, sim3, sim4, sim5, sim6, sim7, sim8, ↓reduceIte, Nat.reduceEqDiff, Nat.reduceAdd, Nat.reduceMul, Nat.reduceSub, Nat.reduceLT, Nat.reduceLeDiff, reduceCtorEq, Int.reduceToNat, Int.reduceNeg, Nat.reduceBEq, simx, ty, Sg.row, It.row, idxS_map, loadS_map, stoS_map, ← List.map_take, ← List.map_drop, upW, loadS_two, plW]
  repeat' (first
    | ((with_reducible refine onCall ?_); first
      | ((refine GC.frzT rfl rfl ?_ ?_; (try (focus (first | decide | (simp only [List.length_cons, List.length_nil, List.length_append]; omega)))); rotate_left; (try simp only [List.set_cons_zero, List.set_cons_succ, unS_nil, unS_cons, List.take_succ_cons, List.take_nil, List.take_zero]); (apply GC.useP false [] (numbersOf_gc ?_) rfl ?he ?ha (fun h_ => Bool.noConfusion h_) ?_; (case he => (trivial)); (case ha => (repeat' (first | exact arL_nil | refine arL_cons ?_ ?_ | exact ar_v | exact ar_sl | exact ar_ptr rfl | exact ar_own rfl | refine ar_agg ?_))); (all_goals (try (intro r_ hs_ hk_; obtain ⟨ns, b, hc_, rfl, rfl⟩ := hk_; (try simp -implicitDefEqProofs (maxSteps := 4000000) only [sim0, sim1, sim2, sim3, sim4, sim5, sim6, sim7, sim8, ↓reduceIte, Nat.reduceEqDiff, Nat.reduceAdd, Nat.reduceMul, Nat.reduceSub, Nat.reduceLT, Nat.reduceLeDiff, reduceCtorEq, Int.reduceToNat, Int.reduceNeg, Nat.reduceBEq, simx, ty, Sg.row, It.row, idxS_map, loadS_map, stoS_map, ← List.map_take, ← List.map_drop, upW, loadS_two, plW])))))))
      | (refine GC.use true [] (split_gc ?_ ?_) rfl trivial (by repeat' (first | exact arL_nil | refine arL_cons ?_ ?_ | exact ar_v | exact ar_sl | exact ar_nil | refine ar_ref rfl rfl (by simp) (plnLL_map (fun _ => rfl) _) | refine ar_rs rfl rfl (by simp; omega) (plnLL_map (fun _ => rfl) _) | refine ar_agg ?_)) (.inr ⟨rfl, by first | rfl | simp [Sg.ns, It.ns]⟩) ?_ <;> try simp -implicitDefEqProofs (maxSteps := 4000000) only [sim0, sim1, sim2, sim3, sim4, sim5, sim6, sim7, sim8, ↓reduceIte, Nat.reduceEqDiff, Nat.reduceAdd, Nat.reduceMul, Nat.reduceSub, Nat.reduceLT, Nat.reduceLeDiff, reduceCtorEq, Int.reduceToNat, Int.reduceNeg, Nat.reduceBEq, simx, ty, Sg.row, It.row, idxS_map, loadS_map, stoS_map, ← List.map_take, ← List.map_drop, upW, loadS_two, plW])
      | (refine GC.use true [] stateWords_gc rfl trivial (by repeat' (first | exact arL_nil | refine arL_cons ?_ ?_ | exact ar_v | exact ar_sl | exact ar_nil | refine ar_ref rfl rfl (by simp) (plnLL_map (fun _ => rfl) _) | refine ar_rs rfl rfl (by simp; omega) (plnLL_map (fun _ => rfl) _) | refine ar_agg ?_)) (.inr ⟨rfl, by first | rfl | simp [Sg.ns, It.ns]⟩) ?_ <;> try simp -implicitDefEqProofs (maxSteps := 4000000) only [sim0, sim1, sim2, sim3, sim4, sim5, sim6, sim7, sim8, ↓reduceIte, Nat.reduceEqDiff, Nat.reduceAdd, Nat.reduceMul, Nat.reduceSub, Nat.reduceLT, Nat.reduceLeDiff, reduceCtorEq, Int.reduceToNat, Int.reduceNeg, Nat.reduceBEq, simx, ty, Sg.row, It.row, idxS_map, loadS_map, stoS_map, ← List.map_take, ← List.map_drop, upW, loadS_two, plW])
      | (refine GC.callS isValidTrack_gc rfl rfl ?_ <;> try simp -implicitDefEqProofs (maxSteps := 4000000) only [sim0, sim1, sim2, sim3, sim4, sim5, sim6, sim7, sim8, ↓reduceIte, Nat.reduceEqDiff, Nat.reduceAdd, Nat.reduceMul, Nat.reduceSub, Nat.reduceLT, Nat.reduceLeDiff, reduceCtorEq, Int.reduceToNat, Int.reduceNeg, Nat.reduceBEq, simx, ty, Sg.row, It.row, idxS_map, loadS_map, stoS_map, ← List.map_take, ← List.map_drop, upW, loadS_two, plW])
      | (refine GC.callS (trackLine_gc ?_) rfl rfl ?_ <;> try simp -implicitDefEqProofs (maxSteps := 4000000) only [sim0, sim1, sim2, sim3, sim4, sim5, sim6, sim7, sim8, ↓reduceIte, Nat.reduceEqDiff, Nat.reduceAdd, Nat.reduceMul, Nat.reduceSub, Nat.reduceLT, Nat.reduceLeDiff, reduceCtorEq, Int.reduceToNat, Int.reduceNeg, Nat.reduceBEq, simx, ty, Sg.row, It.row, idxS_map, loadS_map, stoS_map, ← List.map_take, ← List.map_drop, upW, loadS_two, plW])
      | fail)
    | ((with_reducible refine onCode ?_); first
      | (refine onLid 17 ?_ (by rfl); refine acode_prune [0, 2, 3, 4, 5, 6, 7, 8, 9, 10, 11, 81, 82, 83] ?_; simp only [prn_cons, prn_nil, lk_cons, lk_emp, Nat.reduceEqDiff, ↓reduceIte]; refine acode_loopE2 17 (by rfl) (α := Int × Int) (fun ⟨k, st⟩ => [(83, vi k)]) [10, 11, 84, 85, 86, 87, 88, 89, 90, 91, 92, 93, 94, 95] [10, 11] (by kernel_rfl) [] (fun ⟨k, st⟩ => [.arr 6 [[vi 0, vi 0, vi 0, vi 0, vi 0, vi 0]], .arr 1 ((splS t 32).map Sg.e), .arr 1 ((splS ((splS t 32).getD 3 default).b 44).map Sg.e), .dead, .arr 1 [[vs ((splS t 32).getD 7 default).b]], .dead, .arr 6 [[vi (ns.getD 0 default).n, vi st, vi (ns.getD 1 default).n, vi (ns.getD 2 default).n, vi (ns.getD 3 default).n, vi (ns.getD 4 default).n]], .arr 1 (wdW.map Sg.e)]) (fun _ => by simp) (fun _ _ => rfl) (fun ⟨k, st⟩ => (0 ≤ k ∧ k ≤ 4) ∧ wdJ ((splS t 32).getD 1 default).b k st) (fun ⟨k, st⟩ => (4 - k).toNat) ((0, 0)) ?_ ?_ (by (try simp only []) <;> first | (exact ⟨by omega, wd_zero⟩) | fail) ?_; (focus ((try dsimp only []); (repeat' (first | exact agr_none | exact lk_hd | refine lk_tl (by decide) ?_ | refine agr_one ?_ ?_)); done)); (focus (first | rfl | (simp; done))); rintro ⟨k, st⟩ hJ; (try simp only [] at hJ); have hJ17 := hJ; simp -implicitDefEqProofs (maxSteps := 4000000) only [sim0, sim1, sim2, sim3, sim4, sim5, sim6, sim7, sim8, ↓reduceIte, Nat.reduceEqDiff, Nat.reduceAdd, Nat.reduceMul, Nat.reduceSub, Nat.reduceLT, Nat.reduceLeDiff, reduceCtorEq, Int.reduceToNat, Int.reduceNeg, Nat.reduceBEq, simx, ty, Sg.row, It.row, idxS_map, loadS_map, stoS_map, ← List.map_take, ← List.map_drop, upW, loadS_two, plW])
      | (refine onLid 17 ?_ (by rfl); refine acode_prune [0, 2, 3, 4, 5, 6, 7, 8, 9, 10, 11, 81, 82, 83] ?_; simp only [prn_cons, prn_nil, lk_cons, lk_emp, Nat.reduceEqDiff, ↓reduceIte]; refine acode_loopE2 17 (by rfl) (α := Int × Int) (fun ⟨k, st⟩ => [(83, vi k)]) [10, 11, 84, 85, 86, 87, 88, 89, 90, 91, 92, 93, 94, 95] [10, 11] (by kernel_rfl) [] (fun ⟨k, st⟩ => [.arr 6 [[vi 0, vi 0, vi 0, vi 0, vi 0, vi 0]], .arr 1 ((splS t 32).map Sg.e), .arr 1 ((splS ((splS t 32).getD 3 default).b 44).map Sg.e), .dead, .arr 6 [[vi (ns.getD 0 default).n, vi st, vi (ns.getD 1 default).n, vi (ns.getD 2 default).n, vi (ns.getD 3 default).n, vi 0]], .arr 1 (wdW.map Sg.e)]) (fun _ => by simp) (fun _ _ => rfl) (fun ⟨k, st⟩ => (0 ≤ k ∧ k ≤ 4) ∧ wdJ ((splS t 32).getD 1 default).b k st) (fun ⟨k, st⟩ => (4 - k).toNat) ((0, 0)) ?_ ?_ (by (try simp only []) <;> first | (exact ⟨by omega, wd_zero⟩) | fail) ?_; (focus ((try dsimp only []); (repeat' (first | exact agr_none | exact lk_hd | refine lk_tl (by decide) ?_ | refine agr_one ?_ ?_)); done)); (focus (first | rfl | (simp; done))); rintro ⟨k, st⟩ hJ; (try simp only [] at hJ); have hJ17 := hJ; simp -implicitDefEqProofs (maxSteps := 4000000) only [sim0, sim1, sim2, sim3, sim4, sim5, sim6, sim7, sim8, ↓reduceIte, Nat.reduceEqDiff, Nat.reduceAdd, Nat.reduceMul, Nat.reduceSub, Nat.reduceLT, Nat.reduceLeDiff, reduceCtorEq, Int.reduceToNat, Int.reduceNeg, Nat.reduceBEq, simx, ty, Sg.row, It.row, idxS_map, loadS_map, stoS_map, ← List.map_take, ← List.map_drop, upW, loadS_two, plW])
      | fail)
    | ((with_reducible refine onLpe ?_); first
      | (refine lpe2_end0 (α := Int × Int) (mods := (fun ⟨k, st⟩ => [(83, vi k)])) [0, 1, 2, 3, 4, 5, 6, 7] (_, _) rfl rfl rfl (by (try dsimp only []); rfl) (by first | (simp only [plnLL, pln, Value.oneCell', List.all_cons, List.all_nil, plnH, Sg.pl, It.pl, Bool.and_true, Bool.and_self]; done) | rfl) (by (try dsimp only []); simp only [agrR_cons, agrR_nil, lk_cons, lk_emp, Nat.reduceEqDiff, ↓reduceIte, and_true]; repeat' (first | exact rn_v | rfl | (simp only [List.length_append, List.length_cons, List.length_nil]; rfl) | apply And.intro)) (by unfold undK; kernel_rfl) ?_ ?_ <;> ((try simp only []); ((have e_ : IntKind.i64.wrap (k + 1) = k + 1 := wrap_id (by omega) (by omega); (try simp only [e_] at hq ⊢); first | omega | exact ⟨by omega, wd_hit (by omega) hJ17.2 hq⟩ | exact ⟨by omega, wd_go (by omega) hJ17.2 hq⟩))))
      | (refine lpe2_end0 (α := Int × Int) (mods := (fun ⟨k, st⟩ => [(83, vi k)])) [0, 1, 2, 3, 4, 5] (_, _) rfl rfl rfl (by (try dsimp only []); rfl) (by first | (simp only [plnLL, pln, Value.oneCell', List.all_cons, List.all_nil, plnH, Sg.pl, It.pl, Bool.and_true, Bool.and_self]; done) | rfl) (by (try dsimp only []); simp only [agrR_cons, agrR_nil, lk_cons, lk_emp, Nat.reduceEqDiff, ↓reduceIte, and_true]; repeat' (first | exact rn_v | rfl | (simp only [List.length_append, List.length_cons, List.length_nil]; rfl) | apply And.intro)) (by unfold undK; kernel_rfl) ?_ ?_ <;> ((try simp only []); ((have e_ : IntKind.i64.wrap (k + 1) = k + 1 := wrap_id (by omega) (by omega); (try simp only [e_] at hq ⊢); first | omega | exact ⟨by omega, wd_hit (by omega) hJ17.2 hq⟩ | exact ⟨by omega, wd_go (by omega) hJ17.2 hq⟩))))
      | fail)
    | ((with_reducible refine onFin ?_); first
      | (refine fin_K (by (try simp -implicitDefEqProofs (maxSteps := 4000000) only [sim0, sim1, sim2, sim3, sim4, sim5, sim6, sim7, sim8, ↓reduceIte, Nat.reduceEqDiff, Nat.reduceAdd, Nat.reduceMul, Nat.reduceSub, Nat.reduceLT, Nat.reduceLeDiff, reduceCtorEq, Int.reduceToNat, Int.reduceNeg, Nat.reduceBEq, simx, ty, fins, funs, idn, ids, List.filter_nil, List.filter_cons, List.map_nil, Sg.row, It.row, idxS_map, loadS_map, stoS_map, ← List.map_take, ← List.map_drop, upW, loadS_two, plW]); first | done | (simp only [plnLL, pln, Value.oneCell', List.all_cons, List.all_nil, plnH, Sg.pl, It.pl, Bool.and_true, Bool.and_self]; done) | rfl) (by rfl) ?_; simp -implicitDefEqProofs (maxSteps := 4000000) only [sim0, sim1, sim2, sim3, sim4, sim5, sim6, sim7, sim8, ↓reduceIte, Nat.reduceEqDiff, Nat.reduceAdd, Nat.reduceMul, Nat.reduceSub, Nat.reduceLT, Nat.reduceLeDiff, reduceCtorEq, Int.reduceToNat, Int.reduceNeg, Nat.reduceBEq, simx, ty, fins, funs, idn, ids, List.filter_nil, List.filter_cons, List.map_nil, Sg.row, It.row, idxS_map, loadS_map, stoS_map, ← List.map_take, ← List.map_drop, upW, loadS_two, plW]; (first | (refine ⟨_, _, _, _, _, _, _, ⟨fun h => Bool.noConfusion h, fun _ => ⟨rfl, rfl, rfl, rfl, rfl, rfl⟩, fun i' s' x' y' h' l' ht e => ?_⟩, rfl⟩; exfalso; have P := pt_of ht e; first | exact len68 P (by assumption) (by assumption) | exact len44 P hq | (have g := im4 P hc_; first | (rw [g.1] at hq; cases hq; done) | (have g2 := wd_fin P hJ17.1 (by omega) hJ17.2; have g3 := l_of6 P (len6 (by assumption)); rw [g.2.1, g.2.2.1, g.2.2.2.1, g.2.2.2.2, g2, ← g3] at hq; first | (rw [ht] at hq; cases hq; done) | (rw [← e] at hq; simp at hq; done))) | (have g := im5 P (l_of8 P (len8' (by assumption))) hc_; first | (rw [g.1] at hq; cases hq; done) | (have g2 := wd_fin P hJ17.1 (by omega) hJ17.2; rw [g.2.1, g.2.2.1, g.2.2.2.1, g.2.2.2.2.1, g.2.2.2.2.2, g2] at hq; first | (rw [ht] at hq; cases hq; done) | (rw [← e] at hq; simp at hq; done)))) | (refine ⟨_, _, _, _, _, _, _, ⟨fun _ => ⟨eq_true_of_ne_false (by assumption), tl_eq hq⟩, fun h => Bool.noConfusion h, fun i' s' x' y' h' l' ht e => ?_⟩, rfl⟩; have P := pt_of ht e; have g2 := wd_fin P hJ17.1 (by omega) hJ17.2; first | (have g := im4 P hc_; exact ⟨rfl, g.2.1, g2, g.2.2.1, g.2.2.2.1, g.2.2.2.2, (l_of6 P (len6 (by assumption))).symm⟩) | (have g := im5 P (l_of8 P (len8' (by assumption))) hc_; exact ⟨rfl, g.2.1, g2, g.2.2.1, g.2.2.2.1, g.2.2.2.2.1, g.2.2.2.2.2⟩)) | fail))
      | fail)
    | ((exfalso; simp only [bne_iff_ne, beq_iff_eq, ne_eq, Decidable.not_not] at *; omega))
    | ((exfalso; have g9 := hc_.2 (eq_true_of_ne_false (by assumption)); simp only [List.length_cons, List.length_nil] at g9; simp only [bne_iff_ne, beq_iff_eq, ne_eq, Decidable.not_not] at *; omega))
    | (with_reducible refine ite_intro (fun hq => ?_) (fun hq => ?_))
    | (with_reducible refine And.intro (fun hq => ?_) (fun hq => ?_))
    | (with_reducible refine And.intro ?_ ?_)
    | ((fail_if_success (with_reducible refine onCode ?_)); (fail_if_success (with_reducible refine onLps ?_)); (fail_if_success (with_reducible refine onLpd ?_)); (fail_if_success (with_reducible refine onLpe ?_)); (fail_if_success (with_reducible refine onFin ?_)); (fail_if_success (with_reducible refine onCall ?_)); (fail_if_success (with_reducible refine onQcall ?_)); first | ((first | omega | (have g9 := wd_sz (t := t) (n := 32) (k := 3); omega) | (show k.toNat < 4; omega) | exact sz4 hl | exact sz5 hl | exact trB_R (eq_true_of_ne_false hq) | (simp only [List.length_cons, List.length_nil]; omega) | (have g9 := hc_.2 (eq_true_of_ne_false (by assumption)); simp only [List.length_cons, List.length_nil] at g9; omega) | (simp only [bne_iff_ne, beq_iff_eq, ne_eq, Decidable.not_not] at *; omega)); done) | omega | (rw [wrap_id (by omega) (by omega)]; omega) | (first | (refine ⟨_, _, _, _, _, _, _, ⟨fun h => Bool.noConfusion h, fun _ => ⟨rfl, rfl, rfl, rfl, rfl, rfl⟩, fun i' s' x' y' h' l' ht e => ?_⟩, rfl⟩; exfalso; have P := pt_of ht e; first | exact len68 P (by assumption) (by assumption) | exact len44 P hq | (have g := im4 P hc_; first | (rw [g.1] at hq; cases hq; done) | (have g2 := wd_fin P hJ17.1 (by omega) hJ17.2; have g3 := l_of6 P (len6 (by assumption)); rw [g.2.1, g.2.2.1, g.2.2.2.1, g.2.2.2.2, g2, ← g3] at hq; first | (rw [ht] at hq; cases hq; done) | (rw [← e] at hq; simp at hq; done))) | (have g := im5 P (l_of8 P (len8' (by assumption))) hc_; first | (rw [g.1] at hq; cases hq; done) | (have g2 := wd_fin P hJ17.1 (by omega) hJ17.2; rw [g.2.1, g.2.2.1, g.2.2.2.1, g.2.2.2.2.1, g.2.2.2.2.2, g2] at hq; first | (rw [ht] at hq; cases hq; done) | (rw [← e] at hq; simp at hq; done)))) | (refine ⟨_, _, _, _, _, _, _, ⟨fun _ => ⟨eq_true_of_ne_false (by assumption), tl_eq hq⟩, fun h => Bool.noConfusion h, fun i' s' x' y' h' l' ht e => ?_⟩, rfl⟩; have P := pt_of ht e; have g2 := wd_fin P hJ17.1 (by omega) hJ17.2; first | (have g := im4 P hc_; exact ⟨rfl, g.2.1, g2, g.2.2.1, g.2.2.2.1, g.2.2.2.2, (l_of6 P (len6 (by assumption))).symm⟩) | (have g := im5 P (l_of8 P (len8' (by assumption))) hc_; exact ⟨rfl, g.2.1, g2, g.2.2.1, g.2.2.2.1, g.2.2.2.2.1, g.2.2.2.2.2⟩)) | fail)))

end Go.Proofs.Ytejahpnbplcgnaa
