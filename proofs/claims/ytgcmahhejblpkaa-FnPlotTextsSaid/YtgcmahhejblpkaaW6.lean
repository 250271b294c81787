/-
Contracts of what cuts a text, over plain data.
No condition but those that the contracts name.
-/
import Derived.Test.YtgcmahhejblpkaaW3
import Derived.Test.YtgcmahhejblpkaaVZ
namespace Go.Proofs.Ytgcmahhejblpkaa
open Eng
set_option linter.unusedSimpArgs false
set_option linter.unusedVariables false
structure Sg where
  b : ByteArray
instance : Inhabited Sg := ⟨⟨ByteArray.empty⟩⟩
def Sg.e (t : Sg) : List AV := [vs t.b]
theorem Sg.ee {t : Sg} : Sg.e t = [vs t.b] := (rfl)
theorem Sg.pl {ts : List Sg} : plnLL (ts.map Sg.e) = true := plnLL_map (fun _ => rfl) ts
theorem Sg.ns {z : Nat} {ts : List Sg} : noslE (.arr z (ts.map Sg.e)) = true := nosl_map (fun _ => rfl) ts
theorem Sg.rn {n0 z : Nat} {is : List Nat} {ts : List Sg} : rnE n0 is (.arr z (ts.map Sg.e)) = .arr z (ts.map Sg.e) := rnE_pln Sg.pl
theorem Sg.up {n z : Nat} {r : List Nat} {ts : List Sg} : upE r n (.arr z (ts.map Sg.e)) = .arr z (ts.map Sg.e) := upE_pln Sg.pl
theorem Sg.st {ts : List Sg} {i : Nat} {a0 : ByteArray} : (ts.map Sg.e).set i [vs a0] = (ts.set i ⟨a0⟩).map Sg.e := by rw [List.map_set]; rfl
theorem Sg.ap {ts : List Sg} {a0 : ByteArray} : ts.map Sg.e ++ [[vs a0]] = (ts ++ [(⟨a0⟩ : Sg)]).map Sg.e := by rw [List.map_append]; rfl
theorem Sg.aq {ts us : List Sg} : ts.map Sg.e ++ us.map Sg.e = (ts ++ us).map Sg.e := by rw [List.map_append]
theorem Sg.rp {n : Nat} : List.replicate n [AV.v (.string ByteArray.empty)] = (List.replicate n (default : Sg)).map Sg.e := by rw [List.map_replicate]; rfl
theorem Sg.row : (type_of% @Sg.ee) ∧ (type_of% @Sg.pl) ∧ (type_of% @Sg.ns) ∧ (type_of% @Sg.rn) ∧ (type_of% @Sg.up) ∧ (type_of% @Sg.st) ∧ (type_of% @Sg.ap) ∧ (type_of% @Sg.aq) ∧ (type_of% @Sg.rp) :=
  ⟨@Sg.ee, @Sg.pl, @Sg.ns, @Sg.rn, @Sg.up, @Sg.st, @Sg.ap, @Sg.aq, @Sg.rp⟩
theorem Sg.b_ite {c : Prop} [Decidable c] {x y : Sg} : (if c then x else y).b = if c then x.b else y.b := by split <;> rfl
theorem Sg.ite : (type_of% @Sg.b_ite) :=
  @Sg.b_ite

/-- a text's bytes -/
def bs (s : ByteArray) : List UInt8 := s.data.toList
def mkS (l : List UInt8) : ByteArray := ⟨l.toArray⟩
theorem bs_mkS {l : List UInt8} : bs (mkS l) = l := by simp [bs, mkS]
theorem mkS_bs {s : ByteArray} : mkS (bs s) = s := by
  cases s with | mk d => simp [bs, mkS]
theorem bs_inj {s t : ByteArray} (h : bs s = bs t) : s = t := by rw [← mkS_bs (s := s), h, mkS_bs]
theorem bs_app {s t : ByteArray} : bs (s ++ t) = bs s ++ bs t := by
  simp [bs, ByteArray.data_append]
theorem bs_len {s : ByteArray} : (bs s).length = s.size := by
  cases s with | mk d => simp [bs, ByteArray.size]
theorem ext_eq {s : ByteArray} {f i : Nat} : s.extract f i = mkS (((bs s).take i).drop f) := by
  apply bs_inj
  rw [bs_mkS]
  simp only [bs, ByteArray.data_extract, Array.toList_extract, List.extract_eq_take_drop, List.drop_take]
def spL (n : Int) : List UInt8 → List UInt8 → List (List UInt8)
  | cur, [] => [cur]
  | cur, x :: xs => if ((x.toNat : Int) == n) = true then cur :: spL n [] xs else spL n (cur ++ [x]) xs
def splS (s : ByteArray) (n : Int) : List Sg := (spL n [] (bs s)).map fun l => ⟨mkS l⟩
section
variable {s : ByteArray} {n f i : Int} {us : List Sg} {X : List Sg}
theorem dropc (h0 : 0 ≤ i) (h1 : i < s.size) : (bs s).drop i.toNat = (((s.data.toList)[i.toNat]?).getD 0) :: (bs s).drop (i + 1).toNat := by
  have e : (i + 1).toNat = i.toNat + 1 := by omega
  have hi : i.toNat < (bs s).length := by rw [bs_len]; omega
  rw [e, List.drop_eq_getElem_cons hi]
  congr 1
  have : s.data.toList[i.toNat]? = some (bs s)[i.toNat] := List.getElem?_eq_getElem hi
  rw [this]; rfl
theorem takec (h0 : 0 ≤ f) (hf : f ≤ i) (h1 : i < s.size) : ((bs s).take i.toNat).drop f.toNat ++ [((s.data.toList)[i.toNat]?).getD 0] = ((bs s).take (i + 1).toNat).drop f.toNat := by
  have e : (i + 1).toNat = i.toNat + 1 := by omega
  have hi : i.toNat < (bs s).length := by rw [bs_len]; omega
  rw [e, List.take_add_one, List.getElem?_eq_getElem hi, List.drop_append_of_le_length (by simp; omega)]
  congr 1
  have : s.data.toList[i.toNat]? = some (bs s)[i.toNat] := List.getElem?_eq_getElem hi
  rw [this]; rfl
/-- the state of the loop that cuts -/
def spJ (s : ByteArray) (n f i : Int) (us : List Sg) : Prop := splS s n = us ++ (spL n (((bs s).take i.toNat).drop f.toNat) ((bs s).drop i.toNat)).map fun l => ⟨mkS l⟩
theorem sp_init : spJ s n 0 0 [] := by simp [spJ, splS]
theorem sp_cut (h0 : 0 ≤ f) (hf : f ≤ i) (h1 : i < s.size) (h : spJ s n f i us) (hq : (((((s.data.toList)[i.toNat]?).getD 0).toNat : Int) == n) = true) : spJ s n (i + 1) (i + 1) (us ++ [⟨s.extract f.toNat i.toNat⟩]) := by
  unfold spJ at h ⊢
  rw [dropc (by omega) h1, spL, if_pos hq] at h
  rw [h, ext_eq, List.map_cons]
  have e : ((bs s).take (i + 1).toNat).drop (i + 1).toNat = [] := by rw [List.drop_take]; simp
  rw [e]; simp
theorem sp_go (h0 : 0 ≤ f) (hf : f ≤ i) (h1 : i < s.size) (h : spJ s n f i us) (hq : ¬ (((((s.data.toList)[i.toNat]?).getD 0).toNat : Int) == n) = true) : spJ s n f (i + 1) us := by
  unfold spJ at h ⊢
  rw [dropc (by omega) h1, spL, if_neg hq, takec h0 hf h1] at h
  exact h
theorem sp_end (hf : f ≤ i) (h1 : ¬ i < s.size) (h2 : i ≤ s.size) (h : spJ s n f i us) : us ++ [⟨s.extract f.toNat s.size⟩] = splS s n := by
  unfold spJ at h
  have e : i.toNat = s.size := by omega
  rw [h, ext_eq, e]
  have e2 : (bs s).drop s.size = [] := by rw [← bs_len, List.drop_length]
  rw [e2]; simp [spL]
theorem spL_len {cur l : List UInt8} : (spL n cur l).length ≤ l.length + 1 := by
  induction l generalizing cur with
  | nil => simp [spL]
  | cons x xs ih =>
    unfold spL
    split
    · simp only [List.length_cons]; have := ih (cur := []); omega
    · simp only [List.length_cons]; have := ih (cur := cur ++ [x]); omega
theorem splS_len : (splS s n).length ≤ s.size + 1 := by
  unfold splS; rw [List.length_map]; have := spL_len (n := n) (cur := []) (l := bs s); rw [bs_len] at this; exact this
theorem spL_pos {cur l : List UInt8} : 1 ≤ (spL n cur l).length := by
  induction l generalizing cur with
  | nil => simp [spL]
  | cons x xs ih =>
    unfold spL
    split
    · simp
    · exact ih
theorem spL_word {w cur rest : List UInt8} {x : UInt8} (h : ∀ y ∈ w, ¬ (y.toNat : Int) = n) (hx : (x.toNat : Int) = n) : spL n cur (w ++ x :: rest) = (cur ++ w) :: spL n [] rest := by
  induction w generalizing cur with
  | nil => simp [spL, hx]
  | cons y ys ih =>
    have h1 := h y (by simp)
    simp only [List.cons_append]
    rw [spL, if_neg (by simpa using h1), ih fun z hz => h z (by simp [hz])]
    simp
theorem spL_last {w cur : List UInt8} (h : ∀ y ∈ w, ¬ (y.toNat : Int) = n) : spL n cur w = [cur ++ w] := by
  induction w generalizing cur with
  | nil => simp [spL]
  | cons y ys ih =>
    have h1 := h y (by simp)
    rw [spL, if_neg (by simpa using h1), ih fun z hz => h z (by simp [hz])]
    simp
end
set_option maxRecDepth 100000 in
set_option maxHeartbeats 4000000 in
theorem split_gc {s : ByteArray} {n : Int} (hn : 0 ≤ n ∧ n ≤ 255) (hl : s.size ≤ 1048576) : GC Try.prog 84 [vs s, .v (.int .u8 n)] [] (fun r_ hs_ => r_ = .ref 0 (splS s n).length ∧ hs_ = [.arr 1 ((splS s n).map Sg.e)]) := by
  refine GC.of_func [] Try.call84 Try.func84 rfl ⟨by kernel_rfl, by kernel_rfl⟩ (by kernel_rfl) ?_
  rw [Try.results84]
  simp -implicitDefEqProofs (maxSteps := 4000000) only [sim0, sim1, sim2, sim3, sim4, sim5, sim6, sim7, sim8, ↓reduceIte, Nat.reduceEqDiff, Nat.reduceAdd, Nat.reduceMul, Nat.reduceSub, Nat.reduceLT, Nat.reduceLeDiff, reduceCtorEq, Int.reduceToNat, Int.reduceNeg, Nat.reduceBEq, simx, ty, Sg.row, idxS_map, loadS_map, stoS_map, ← List.map_take, ← List.map_drop]
  repeat' (first
    | ((with_reducible refine onCode ?_); first
      | (refine onLid 4 ?_ (by rfl); refine acode_loop_wk (Wk.nil 5 1 (by rfl)) ?_; try (simp -implicitDefEqProofs (maxSteps := 4000000) only [sim0, sim1, sim2, sim3, sim4, sim5, sim6, sim7, sim8, ↓reduceIte, Nat.reduceEqDiff, Nat.reduceAdd, Nat.reduceMul, Nat.reduceSub, Nat.reduceLT, Nat.reduceLeDiff, reduceCtorEq, Int.reduceToNat, Int.reduceNeg, Nat.reduceBEq, simx, ty, Sg.row, idxS_map, loadS_map, stoS_map, ← List.map_take, ← List.map_drop]); refine acode_prune [0, 1, 4, 5, 6, 7] ?_; simp only [prn_cons, prn_nil, lk_cons, lk_emp, Nat.reduceEqDiff, ↓reduceIte]; refine acode_loopE2 4 (by rfl) (α := Int × Int × List Sg) (fun ⟨i, f, us⟩ => [(7, vi i), (6, vi f), (5, .ref 0 us.length)]) [8, 9, 10, 11, 12, 13, 14, 15, 16, 17, 18, 19, 20, 21, 22, 23, 24, 25, 26, 27] [] (by kernel_rfl) [(5, 0)] (fun ⟨i, f, us⟩ => [.arr 1 (us.map Sg.e)]) (fun _ => by simp) (fun _ _ => rfl) (fun ⟨i, f, us⟩ => ((0 ≤ f ∧ f ≤ i) ∧ i ≤ s.size) ∧ us.length ≤ i ∧ spJ s n f i us) (fun ⟨i, f, us⟩ => (s.size - i).toNat) ((0, 0, [])) ?_ ?_ (by (try simp only []) <;> first | (exact ⟨by omega, by simp, sp_init⟩) | fail) ?_; (focus ((try dsimp only []); (repeat' (first | exact agr_none | exact lk_hd | refine lk_tl (by decide) ?_ | refine agr_one ?_ ?_)); done)); (focus (first | rfl | (simp; done))); rintro ⟨i, f, us⟩ hJ; (try simp only [] at hJ); have hJ4 := hJ; simp -implicitDefEqProofs (maxSteps := 4000000) only [sim0, sim1, sim2, sim3, sim4, sim5, sim6, sim7, sim8, ↓reduceIte, Nat.reduceEqDiff, Nat.reduceAdd, Nat.reduceMul, Nat.reduceSub, Nat.reduceLT, Nat.reduceLeDiff, reduceCtorEq, Int.reduceToNat, Int.reduceNeg, Nat.reduceBEq, simx, ty, Sg.row, idxS_map, loadS_map, stoS_map, ← List.map_take, ← List.map_drop])
      | fail)
    | ((with_reducible refine onLpe ?_); first
      | (refine lpe2_end0 (α := Int × Int × List Sg) (mods := (fun ⟨i, f, us⟩ => [(7, vi i), (6, vi f), (5, .ref 0 us.length)])) _ (_, _, _) rfl rfl rfl (by (try dsimp only []); rfl) (by first | (simp only [plnLL, pln, Value.oneCell', List.all_cons, List.all_nil, plnH, Sg.pl, Bool.and_true, Bool.and_self]; done) | rfl) (by (try dsimp only []); simp only [agrR_cons, agrR_nil, lk_cons, lk_emp, Nat.reduceEqDiff, ↓reduceIte, and_true]; repeat' (first | exact rn_v | rfl | (simp only [List.length_append, List.length_cons, List.length_nil]; rfl) | apply And.intro)) (by unfold undK; kernel_rfl) ?_ ?_ <;> ((try simp only []); ((have e_ : IntKind.i64.wrap (i + 1) = i + 1 := wrap_id (by omega) (by omega); (try simp only [e_] at hq ⊢); first | omega | exact ⟨by omega, by simp; omega, sp_cut (by omega) (by omega) (by omega) hJ4.2.2 hq⟩ | exact ⟨by omega, by omega, sp_go (by omega) (by omega) (by omega) hJ4.2.2 hq⟩))))
      | fail)
    | ((with_reducible refine onFin ?_); first
      | (refine fin_own' ?_ ?_ (by simp) (by first | (simp only [plnLL, pln, Value.oneCell', List.all_cons, List.all_nil, plnH, Sg.pl, Bool.and_true, Bool.and_self, List.take_zero, List.nil_append, List.map_cons, List.map_nil]; done) | rfl) <;> (first | (first | (have g := sp_end (by omega) (by omega) (by omega) hJ4.2.2; simp [fins, funs, ids_tup, ← g]; done) | fail) | (simp_all [fins]; done) | (simp_all [-Int.not_lt, -Int.not_le, fins]; done) | (simp_all [fins]; omega)))
      | (refine fin_ownT' ?_ ?_ ?_ (by simp) (by first | (simp only [plnLL, pln, Value.oneCell', List.all_cons, List.all_nil, plnH, Sg.pl, Bool.and_true, Bool.and_self, List.take_zero, List.nil_append, List.map_cons, List.map_nil]; done) | rfl) rfl <;> (first | (first | (have g := sp_end (by omega) (by omega) (by omega) hJ4.2.2; simp [fins, funs, ids_tup, ← g]; done) | fail) | (simp_all [fins]; done) | (simp_all [-Int.not_lt, -Int.not_le, fins]; done) | (simp_all [fins]; omega)))
      | (refine fin_ids ?_ ?_ ?_ (by first | (simp only [plnLL, pln, Value.oneCell', List.all_cons, List.all_nil, plnH, Sg.pl, Bool.and_true, Bool.and_self, List.take_zero, List.nil_append, List.map_cons, List.map_nil]; done) | rfl) <;> (first | (first | (have g := sp_end (by omega) (by omega) (by omega) hJ4.2.2; simp [fins, funs, ids_tup, ← g]; done) | fail) | (simp_all [fins, funs]; done) | (simp [fins, funs]; done) | (simp_all [-Int.not_lt, -Int.not_le, fins, funs]; done) | (simp_all [fins, funs]; omega)))
      | fail)
    | (with_reducible refine ite_intro (fun hq => ?_) (fun hq => ?_))
    | (with_reducible refine And.intro (fun hq => ?_) (fun hq => ?_))
    | (with_reducible refine And.intro ?_ ?_)
    | ((fail_if_success (with_reducible refine onCode ?_)); (fail_if_success (with_reducible refine onLps ?_)); (fail_if_success (with_reducible refine onLpd ?_)); (fail_if_success (with_reducible refine onLpe ?_)); (fail_if_success (with_reducible refine onFin ?_)); (fail_if_success (with_reducible refine onCall ?_)); (fail_if_success (with_reducible refine onQcall ?_)); first | ((first | omega | (rw [mx64]; omega)); done) | omega | (rw [wrap_id (by omega) (by omega)]; omega) | (first | (have g := sp_end (by omega) (by omega) (by omega) hJ4.2.2; simp [fins, funs, ids_tup, ← g]; done) | fail)))

set_option maxRecDepth 100000 in
set_option maxHeartbeats 4000000 in
theorem l1Split_gc {s : ByteArray} {n : Int} (hn : 0 ≤ n ∧ n ≤ 255) (hl : s.size ≤ 1048576) : GC Try.prog 82 [vs s, .v (.int .u8 n)] [] (fun r_ hs_ => r_ = .ref 0 (splS s n).length ∧ hs_ = [.arr 1 ((splS s n).map Sg.e)]) := by
  refine GC.of_func [] Try.call82 Try.func82 rfl ⟨by kernel_rfl, by kernel_rfl⟩ (by kernel_rfl) ?_
  rw [Try.results82]
  simp -implicitDefEqProofs (maxSteps := 4000000) only [sim0, sim1, sim2, sim3, sim4, sim5, sim6, sim7, sim8, ↓reduceIte, Nat.reduceEqDiff, Nat.reduceAdd, Nat.reduceMul, Nat.reduceSub, Nat.reduceLT, Nat.reduceLeDiff, reduceCtorEq, Int.reduceToNat, Int.reduceNeg, Nat.reduceBEq, simx, ty, Sg.row, idxS_map, loadS_map, stoS_map, ← List.map_take, ← List.map_drop]
  repeat' (first
    | ((with_reducible refine onCode ?_); first
      | (refine onLid 4 ?_ (by rfl); refine acode_prune [0, 1, 4, 5, 6, 7] ?_; simp only [prn_cons, prn_nil, lk_cons, lk_emp, Nat.reduceEqDiff, ↓reduceIte]; refine acode_loopE2 4 (by rfl) (α := Int × Int × List Sg) (fun ⟨i, f, us⟩ => [(7, vi i), (6, vi f), (5, .ref 0 us.length)]) [9, 10, 11, 12, 13, 14, 15, 16, 17, 18, 19, 20, 21, 22, 23, 24, 25, 26, 27, 28] [] (by kernel_rfl) [(5, 0)] (fun ⟨i, f, us⟩ => [.arr 1 (us.map Sg.e)]) (fun _ => by simp) (fun _ _ => rfl) (fun ⟨i, f, us⟩ => ((0 ≤ f ∧ f ≤ i) ∧ i ≤ s.size) ∧ us.length ≤ i ∧ spJ s n f i us) (fun ⟨i, f, us⟩ => (s.size - i).toNat) ((0, 0, [])) ?_ ?_ (by (try simp only []) <;> first | (exact ⟨by omega, by simp, sp_init⟩) | fail) ?_; (focus ((try dsimp only []); (repeat' (first | exact agr_none | exact lk_hd | refine lk_tl (by decide) ?_ | refine agr_one ?_ ?_)); done)); (focus (first | rfl | (simp; done))); rintro ⟨i, f, us⟩ hJ; (try simp only [] at hJ); have hJ4 := hJ; simp -implicitDefEqProofs (maxSteps := 4000000) only [sim0, sim1, sim2, sim3, sim4, sim5, sim6, sim7, sim8, ↓reduceIte, Nat.reduceEqDiff, Nat.reduceAdd, Nat.reduceMul, Nat.reduceSub, Nat.reduceLT, Nat.reduceLeDiff, reduceCtorEq, Int.reduceToNat, Int.reduceNeg, Nat.reduceBEq, simx, ty, Sg.row, idxS_map, loadS_map, stoS_map, ← List.map_take, ← List.map_drop])
      | fail)
    | ((with_reducible refine onLpe ?_); first
      | (refine lpe2_end0 (α := Int × Int × List Sg) (mods := (fun ⟨i, f, us⟩ => [(7, vi i), (6, vi f), (5, .ref 0 us.length)])) _ (_, _, _) rfl rfl rfl (by (try dsimp only []); rfl) (by first | (simp only [plnLL, pln, Value.oneCell', List.all_cons, List.all_nil, plnH, Sg.pl, Bool.and_true, Bool.and_self]; done) | rfl) (by (try dsimp only []); simp only [agrR_cons, agrR_nil, lk_cons, lk_emp, Nat.reduceEqDiff, ↓reduceIte, and_true]; repeat' (first | exact rn_v | rfl | (simp only [List.length_append, List.length_cons, List.length_nil]; rfl) | apply And.intro)) (by unfold undK; kernel_rfl) ?_ ?_ <;> ((try simp only []); ((have e_ : IntKind.i64.wrap (i + 1) = i + 1 := wrap_id (by omega) (by omega); (try simp only [e_] at hq ⊢); first | omega | exact ⟨by omega, by simp; omega, sp_cut (by omega) (by omega) (by omega) hJ4.2.2 hq⟩ | exact ⟨by omega, by omega, sp_go (by omega) (by omega) (by omega) hJ4.2.2 hq⟩))))
      | fail)
    | ((with_reducible refine onFin ?_); first
      | (refine fin_own' ?_ ?_ (by simp) (by first | (simp only [plnLL, pln, Value.oneCell', List.all_cons, List.all_nil, plnH, Sg.pl, Bool.and_true, Bool.and_self, List.take_zero, List.nil_append, List.map_cons, List.map_nil]; done) | rfl) <;> (first | (first | (have g := sp_end (by omega) (by omega) (by omega) hJ4.2.2; simp [fins, funs, ids_tup, ← g]; done) | fail) | (simp_all [fins]; done) | (simp_all [-Int.not_lt, -Int.not_le, fins]; done) | (simp_all [fins]; omega)))
      | (refine fin_ownT' ?_ ?_ ?_ (by simp) (by first | (simp only [plnLL, pln, Value.oneCell', List.all_cons, List.all_nil, plnH, Sg.pl, Bool.and_true, Bool.and_self, List.take_zero, List.nil_append, List.map_cons, List.map_nil]; done) | rfl) rfl <;> (first | (first | (have g := sp_end (by omega) (by omega) (by omega) hJ4.2.2; simp [fins, funs, ids_tup, ← g]; done) | fail) | (simp_all [fins]; done) | (simp_all [-Int.not_lt, -Int.not_le, fins]; done) | (simp_all [fins]; omega)))
      | (refine fin_ids ?_ ?_ ?_ (by first | (simp only [plnLL, pln, Value.oneCell', List.all_cons, List.all_nil, plnH, Sg.pl, Bool.and_true, Bool.and_self, List.take_zero, List.nil_append, List.map_cons, List.map_nil]; done) | rfl) <;> (first | (first | (have g := sp_end (by omega) (by omega) (by omega) hJ4.2.2; simp [fins, funs, ids_tup, ← g]; done) | fail) | (simp_all [fins, funs]; done) | (simp [fins, funs]; done) | (simp_all [-Int.not_lt, -Int.not_le, fins, funs]; done) | (simp_all [fins, funs]; omega)))
      | fail)
    | (with_reducible refine ite_intro (fun hq => ?_) (fun hq => ?_))
    | (with_reducible refine And.intro (fun hq => ?_) (fun hq => ?_))
    | (with_reducible refine And.intro ?_ ?_)
    | ((fail_if_success (with_reducible refine onCode ?_)); (fail_if_success (with_reducible refine onLps ?_)); (fail_if_success (with_reducible refine onLpd ?_)); (fail_if_success (with_reducible refine onLpe ?_)); (fail_if_success (with_reducible refine onFin ?_)); (fail_if_success (with_reducible refine onCall ?_)); (fail_if_success (with_reducible refine onQcall ?_)); first | ((first | omega | (rw [mx64]; omega)); done) | omega | (rw [wrap_id (by omega) (by omega)]; omega) | (first | (have g := sp_end (by omega) (by omega) (by omega) hJ4.2.2; simp [fins, funs, ids_tup, ← g]; done) | fail)))

end Go.Proofs.Ytgcmahhejblpkaa
