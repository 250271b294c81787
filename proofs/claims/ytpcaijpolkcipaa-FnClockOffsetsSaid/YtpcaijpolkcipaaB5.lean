/-
Contracts of the median of differences, of OffsetOf, WorstPair and IsSteadyClock, over plain data.
No condition but those that the contracts name.
-/
import Derived.Test.YtpcaijpolkcipaaB1
import Derived.Test.YtpcaijpolkcipaaW2
import Derived.Test.YtpcaijpolkcipaaVW
namespace Go.Proofs.Ytpcaijpolkcipaa
open Eng
set_option linter.unusedSimpArgs false
set_option linter.unusedVariables false
structure It where
  n : Int
instance : Inhabited It := ⟨⟨0⟩⟩
def It.e (t : It) : List AV := [vi t.n]
theorem It.ee {t : It} : It.e t = [vi t.n] := (rfl)
theorem It.pl {ts : List It} : plnLL (ts.map It.e) = true := plnLL_map (fun _ => rfl) ts
theorem It.ns {z : Nat} {ts : List It} : noslE (.arr z (ts.map It.e)) = true := nosl_map (fun _ => rfl) ts
theorem It.rn {n0 z : Nat} {is : List Nat} {ts : List It} : rnE n0 is (.arr z (ts.map It.e)) = .arr z (ts.map It.e) := rnE_pln It.pl
theorem It.up {n z : Nat} {r : List Nat} {ts : List It} : upE r n (.arr z (ts.map It.e)) = .arr z (ts.map It.e) := upE_pln It.pl
theorem It.st {ts : List It} {i : Nat} {a0 : Int} : (ts.map It.e).set i [vi a0] = (ts.set i ⟨a0⟩).map It.e := by rw [List.map_set]; rfl
theorem It.ap {ts : List It} {a0 : Int} : ts.map It.e ++ [[vi a0]] = (ts ++ [(⟨a0⟩ : It)]).map It.e := by rw [List.map_append]; rfl
theorem It.aq {ts us : List It} : ts.map It.e ++ us.map It.e = (ts ++ us).map It.e := by rw [List.map_append]
theorem It.rp {n : Nat} : List.replicate n [AV.v (.int .i64 0)] = (List.replicate n (default : It)).map It.e := by rw [List.map_replicate]; rfl
theorem It.row : (type_of% @It.ee) ∧ (type_of% @It.pl) ∧ (type_of% @It.ns) ∧ (type_of% @It.rn) ∧ (type_of% @It.up) ∧ (type_of% @It.st) ∧ (type_of% @It.ap) ∧ (type_of% @It.aq) ∧ (type_of% @It.rp) :=
  ⟨@It.ee, @It.pl, @It.ns, @It.rn, @It.up, @It.st, @It.ap, @It.aq, @It.rp⟩
theorem It.n_ite {c : Prop} [Decidable c] {x y : It} : (if c then x else y).n = if c then x.n else y.n := by split <;> rfl
theorem It.ite : (type_of% @It.n_ite) :=
  @It.n_ite
def It.ok (t : It) : Prop := I64 t.n
theorem It.of : ∀ {xs : List (List Int)}, (∀ e ∈ xs, e.length = 1 ∧ ∀ z ∈ e, (Lit.int .i64 z).wf = true) → ∃ ts : List It, els .i64 xs = ts.map It.e ∧ ts.length = xs.length ∧ ∀ t ∈ ts, t.ok
  | [], _ => ⟨[], rfl, rfl, by simp⟩
  | e :: xs, h => by
    obtain ⟨ts, h1, h2, h3⟩ := It.of (xs := xs) fun e he => h e (by simp [he])
    obtain ⟨h4, h5⟩ := h e (by simp)
    match e, h4, h5 with
    | [a0], _, h5 =>
      refine ⟨⟨a0⟩ :: ts, ?_, by simp [h2], ?_⟩
      · simp only [els, List.map_cons] at h1 ⊢
        rw [h1]; rfl
      · intro t ht
        rcases List.mem_cons.1 ht with rfl | ht
        · exact h5 _ (by simp)
        · exact h3 t ht

theorem rn_vb {is : List Nat} {n0 : Nat} {b c : Bool} (h : c = b) : rn n0 is (AV.v (Value.bool b)) = vb c := by rw [h]; rfl
theorem rn_vi {is : List Nat} {n0 : Nat} {b c : Int} (h : c = b) : rn n0 is (AV.v (Value.int .i64 b)) = vi c := by rw [h]; rfl
def ig (xs : List It) (i : Int) : Int := (xs.getD i.toNat default).n
def insK (xs : List It) (n k : Int) : Int := if 0 < k then (if n < ig xs (k - 1) then insK xs n (k - 1) else k) else k
termination_by k.toNat
theorem insK_go {xs : List It} {n k X : Int} (h : 0 < k) (h1 : n < ig xs (k - 1)) (g : X = insK xs n k) : X = insK xs n (k - 1) := by rw [g, insK.eq_1, if_pos h, if_pos h1]
theorem insK_stop {xs : List It} {n k X : Int} (h : ¬ (0 < k ∧ n < ig xs (k - 1))) (g : X = insK xs n k) : X = k := by
  rw [g, insK.eq_1]
  split
  · rename_i h1; rw [if_neg (fun h2 => h ⟨h1, h2⟩)]
  · rfl
theorem insK_rng {xs : List It} {n k : Int} (h : 0 ≤ k) : 0 ≤ insK xs n k ∧ insK xs n k ≤ k := by
  have key : ∀ (m : Nat) (k : Int), k.toNat ≤ m → 0 ≤ k → 0 ≤ insK xs n k ∧ insK xs n k ≤ k := by
    intro m
    induction m with
    | zero => intro k h h0; rw [insK.eq_1, if_neg (by omega)]; omega
    | succ m ih =>
      intro k h h0
      rw [insK.eq_1]
      split
      · split
        · have := ih (k - 1) (by omega) (by omega); omega
        · omega
      · omega
  exact key _ k (Nat.le_refl _) h
def insV (xs : List It) (n : Int) : List It := xs.take (insK xs n xs.length).toNat ++ [⟨n⟩] ++ xs.drop (insK xs n xs.length).toNat
theorem insV_len {xs : List It} {n : Int} : (insV xs n).length = xs.length + 1 := by
  have := insK_rng (xs := xs) (n := n) (k := xs.length) (by omega)
  simp [insV]; omega
theorem ins_eq {xs : List It} {n k : Int} (h0 : 0 ≤ k) (h1 : k ≤ xs.length) (hl : xs.length ≤ 1048576) :
    (List.take (IntKind.i64.wrap (k + 1)).toNat (xs ++ [(⟨0⟩ : It)]) ++ List.take (xs.length + 1 - (IntKind.i64.wrap (k + 1)).toNat) (List.take (xs.length + 1 - k.toNat) (List.drop k.toNat (xs ++ [(⟨0⟩ : It)]))) ++
      List.drop ((IntKind.i64.wrap (k + 1)).toNat + (List.take (xs.length + 1 - (IntKind.i64.wrap (k + 1)).toNat) (List.take (xs.length + 1 - k.toNat) (List.drop k.toNat (xs ++ [(⟨0⟩ : It)])))).length) (xs ++ [(⟨0⟩ : It)])).set k.toNat (⟨n⟩ : It) = xs.take k.toNat ++ [⟨n⟩] ++ xs.drop k.toNat := by
  have e : IntKind.i64.wrap (k + 1) = k + 1 := wrap_id (by omega) (by omega)
  have e1 : (k + 1).toNat = k.toNat + 1 := by omega
  have hK : k.toNat ≤ xs.length := by omega
  rw [e, e1]
  clear e e1 h0 h1
  generalize k.toNat = K at hK
  have hA : List.drop K (xs ++ [(⟨0⟩ : It)]) = xs.drop K ++ [⟨0⟩] := List.drop_append_of_le_length hK
  have h2 : List.take (xs.length + 1 - K) (xs.drop K ++ [(⟨0⟩ : It)]) = xs.drop K ++ [⟨0⟩] := List.take_of_length_le (by simp; omega)
  have h3 : List.take (xs.length + 1 - (K + 1)) (xs.drop K ++ [(⟨0⟩ : It)]) = xs.drop K := List.take_left' (by simp)
  rw [hA, h2, h3]
  have h5 : List.drop (K + 1 + (xs.drop K).length) (xs ++ [(⟨0⟩ : It)]) = [] := List.drop_eq_nil_of_le (by simp; omega)
  rw [h5, List.append_nil]
  have hlt : K < (xs ++ [(⟨0⟩ : It)]).length := by simp; omega
  have h6 : List.take (K + 1) (xs ++ [(⟨0⟩ : It)]) = xs.take K ++ [(xs ++ [(⟨0⟩ : It)])[K]] := by
    rw [List.take_add_one, List.take_append_of_le_length hK, List.getElem?_eq_getElem hlt]; rfl
  rw [h6, List.append_assoc, List.set_append, if_neg (by simp; omega)]
  have h7 : K - (List.take K xs).length = 0 := by simp; omega
  rw [h7]
  simp
theorem insV_at {xs : List It} {n k : Int} (h : insK xs n xs.length = insK xs n k) (h0 : 0 ≤ k) (hl : k ≤ 1048576) (h1 : ¬ 0 < k ∨ ¬ n < (xs.getD (IntKind.i64.wrap (k - 1)).toNat default).n) : insV xs n = xs.take k.toNat ++ [⟨n⟩] ++ xs.drop k.toNat := by
  have e := insK_stop (X := insK xs n xs.length) (k := k) (fun ⟨a, b⟩ => by
    rcases h1 with h1 | h1
    · exact h1 a
    · have e : IntKind.i64.wrap (k - 1) = k - 1 := wrap_id (by omega) (by omega)
      rw [e] at h1; exact h1 b) h
  unfold insV; rw [e]
set_option maxRecDepth 100000 in
set_option maxHeartbeats 4000000 in
theorem insertInt_gc {xs : List It} {n : Int} (hl : xs.length ≤ 1048576) : GC Try.prog 80 [.ref 0 xs.length, vi n] [.arr 1 (xs.map It.e)] (fun r_ hs_ => r_ = .ref 1 (insV xs n).length ∧ hs_ = [.dead, .arr 1 ((insV xs n).map It.e)]) := by
  refine GC.of_func [(5, .val 0 (.val 1 (.val 2 (.val 3 (.val 4 (.val 5 (.val 6 (.eff [(7, [], .done)]))))))))] Try.call80 Try.func80 rfl ⟨by kernel_rfl, by kernel_rfl⟩ (by kernel_rfl) ?_
  rw [Try.results80]
  simp -implicitDefEqProofs (maxSteps := 4000000) only [sim0, sim1, sim2, sim3, sim4, sim5, sim6, sim7, sim8, ↓reduceIte, Nat.reduceEqDiff, Nat.reduceAdd, Nat.reduceMul, Nat.reduceSub, Nat.reduceLT, Nat.reduceLeDiff, reduceCtorEq, Int.reduceToNat, Int.reduceNeg, Nat.reduceBEq, simx, ty, Pr.row, It.row, idxS_map, loadS_map, stoS_map, ← List.map_take, ← List.map_drop]
  repeat' (first
    | ((with_reducible refine onCode ?_); first
      | (refine onLid 2 ?_ (by rfl); refine acode_prune [0, 1, 4, 5] ?_; simp only [prn_cons, prn_nil, lk_cons, lk_emp, Nat.reduceEqDiff, ↓reduceIte]; refine acode_loopS2 2 (by rfl) (α := Int) (fun k => [(5, vi k)]) [8, 9, 10, 11, 12, 13, 14, 15, 16, 17, 18, 19, 20] [] (by kernel_rfl) (fun k => (0 ≤ k ∧ k ≤ xs.length) ∧ insK xs n xs.length = insK xs n k) (fun k => k.toNat) (xs.length) ?_ (by (try simp only []) <;> first | (first | exact ⟨by omega, rfl⟩ | exact ⟨by omega, trivial⟩) | fail) ?_; (focus ((try dsimp only []); (repeat' (first | exact agr_none | exact lk_hd | refine lk_tl (by decide) ?_ | refine agr_one ?_ ?_)); done)); rintro k hJ; (try simp only [] at hJ); have hJ2 := hJ; simp -implicitDefEqProofs (maxSteps := 4000000) only [sim0, sim1, sim2, sim3, sim4, sim5, sim6, sim7, sim8, ↓reduceIte, Nat.reduceEqDiff, Nat.reduceAdd, Nat.reduceMul, Nat.reduceSub, Nat.reduceLT, Nat.reduceLeDiff, reduceCtorEq, Int.reduceToNat, Int.reduceNeg, Nat.reduceBEq, simx, ty, Pr.row, It.row, idxS_map, loadS_map, stoS_map, ← List.map_take, ← List.map_drop])
      | fail)
    | ((with_reducible refine onLps ?_); first
      | (refine lps2_end (α := Int) (mods := (fun k => [(5, vi k)])) _ (by (try dsimp only []); simp only [agr_cons, agr_nil, lk_cons, lk_emp, Nat.reduceEqDiff, ↓reduceIte, and_true]; repeat' (first | rfl | apply And.intro)) (by unfold undK; kernel_rfl) ?_ ?_ <;> ((try simp only []); (have e_ : IntKind.i64.wrap (k - 1) = k - 1 := wrap_id (by omega) (by omega); (try simp only [e_] at hq ⊢); first | omega | exact ⟨by omega, insK_go (by assumption) hq hJ2.2⟩)))
      | fail)
    | ((with_reducible refine onFin ?_); first
      | (refine fin_own' ?_ ?_ (by simp) (by first | (simp only [plnLL, pln, Value.oneCell', List.all_cons, List.all_nil, plnH, Pr.pl, It.pl, Bool.and_true, Bool.and_self, List.take_zero, List.nil_append, List.map_cons, List.map_nil]; done) | rfl) <;> (first | ((have g := ins_eq (n := n) hJ2.1.1 hJ2.1.2 hl; have g2 := insV_at hJ2.2 hJ2.1.1 (by omega) (by first | exact .inl hq | exact .inr hq); (try rw [insV_len]); (try rw [g2]); (try rw [g]); simp [fins, funs, isB, ndB, idn, ids]; done)) | (simp_all [fins]; done) | (simp_all [-Int.not_lt, -Int.not_le, fins]; done) | (simp_all [fins]; omega)))
      | (refine fin_ownT' ?_ ?_ ?_ (by simp) (by first | (simp only [plnLL, pln, Value.oneCell', List.all_cons, List.all_nil, plnH, Pr.pl, It.pl, Bool.and_true, Bool.and_self, List.take_zero, List.nil_append, List.map_cons, List.map_nil]; done) | rfl) rfl <;> (first | ((have g := ins_eq (n := n) hJ2.1.1 hJ2.1.2 hl; have g2 := insV_at hJ2.2 hJ2.1.1 (by omega) (by first | exact .inl hq | exact .inr hq); (try rw [insV_len]); (try rw [g2]); (try rw [g]); simp [fins, funs, isB, ndB, idn, ids]; done)) | (simp_all [fins]; done) | (simp_all [-Int.not_lt, -Int.not_le, fins]; done) | (simp_all [fins]; omega)))
      | (refine fin_ids ?_ ?_ ?_ (by first | (simp only [plnLL, pln, Value.oneCell', List.all_cons, List.all_nil, plnH, Pr.pl, It.pl, Bool.and_true, Bool.and_self, List.take_zero, List.nil_append, List.map_cons, List.map_nil]; done) | rfl) <;> (first | ((have g := ins_eq (n := n) hJ2.1.1 hJ2.1.2 hl; have g2 := insV_at hJ2.2 hJ2.1.1 (by omega) (by first | exact .inl hq | exact .inr hq); (try rw [insV_len]); (try rw [g2]); (try rw [g]); simp [fins, funs, isB, ndB, idn, ids]; done)) | (simp_all [fins, funs]; done) | (simp [fins, funs]; done) | (simp_all [-Int.not_lt, -Int.not_le, fins, funs]; done) | (simp_all [fins, funs]; omega)))
      | fail)
    | (with_reducible refine ite_intro (fun hq => ?_) (fun hq => ?_))
    | (with_reducible refine And.intro (fun hq => ?_) (fun hq => ?_))
    | (with_reducible refine And.intro ?_ ?_)
    | ((fail_if_success (with_reducible refine onCode ?_)); (fail_if_success (with_reducible refine onLps ?_)); (fail_if_success (with_reducible refine onLpd ?_)); (fail_if_success (with_reducible refine onLpe ?_)); (fail_if_success (with_reducible refine onFin ?_)); (fail_if_success (with_reducible refine onCall ?_)); (fail_if_success (with_reducible refine onQcall ?_)); first | ((first | omega | (rw [wrap_id (by omega) (by omega)]; omega) | (have e : IntKind.i64.wrap (k + 1) = k + 1 := wrap_id (by omega) (by omega); rw [e]; simp; omega)); done) | omega | (rw [wrap_id (by omega) (by omega)]; omega) | ((have g := ins_eq (n := n) hJ2.1.1 hJ2.1.2 hl; have g2 := insV_at hJ2.2 hJ2.1.1 (by omega) (by first | exact .inl hq | exact .inr hq); (try rw [insV_len]); (try rw [g2]); (try rw [g]); simp [fins, funs, isB, ndB, idn, ids]; done))))

end Go.Proofs.Ytpcaijpolkcipaa
