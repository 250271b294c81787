/-
Contracts of what draws numbers from bytes, over plain data.
No condition but those that the contracts name.
-/
import Derived.Test.YtgcmahhejblpkaaW2
import Derived.Test.YtgcmahhejblpkaaRows
import Derived.Test.YtgcmahhejblpkaaTy
import Derived.Test.YtgcmahhejblpkaaVX
namespace Go.Proofs.Ytgcmahhejblpkaa
open Eng
set_option linter.unusedSimpArgs false
set_option linter.unusedVariables false
abbrev u8 (n : Int) : AV := .v (.int .u8 n)
abbrev u64 (n : Int) : AV := .v (.int .u64 n)
structure By where
  n : Int
instance : Inhabited By := ⟨⟨0⟩⟩
def By.e (t : By) : List AV := [u8 t.n]
theorem By.ee {t : By} : By.e t = [u8 t.n] := (rfl)
theorem By.pl {ts : List By} : plnLL (ts.map By.e) = true := plnLL_map (fun _ => rfl) ts
theorem By.ns {z : Nat} {ts : List By} : noslE (.arr z (ts.map By.e)) = true := nosl_map (fun _ => rfl) ts
theorem By.rn {n0 z : Nat} {is : List Nat} {ts : List By} : rnE n0 is (.arr z (ts.map By.e)) = .arr z (ts.map By.e) := rnE_pln By.pl
theorem By.up {n z : Nat} {r : List Nat} {ts : List By} : upE r n (.arr z (ts.map By.e)) = .arr z (ts.map By.e) := upE_pln By.pl
theorem By.st {ts : List By} {i : Nat} {a0 : Int} : (ts.map By.e).set i [u8 a0] = (ts.set i ⟨a0⟩).map By.e := by rw [List.map_set]; rfl
theorem By.ap {ts : List By} {a0 : Int} : ts.map By.e ++ [[u8 a0]] = (ts ++ [(⟨a0⟩ : By)]).map By.e := by rw [List.map_append]; rfl
theorem By.aq {ts us : List By} : ts.map By.e ++ us.map By.e = (ts ++ us).map By.e := by rw [List.map_append]
theorem By.rp {n : Nat} : List.replicate n [AV.v (.int .u8 0)] = (List.replicate n (default : By)).map By.e := by rw [List.map_replicate]; rfl
theorem By.row : (type_of% @By.ee) ∧ (type_of% @By.pl) ∧ (type_of% @By.ns) ∧ (type_of% @By.rn) ∧ (type_of% @By.up) ∧ (type_of% @By.st) ∧ (type_of% @By.ap) ∧ (type_of% @By.aq) ∧ (type_of% @By.rp) :=
  ⟨@By.ee, @By.pl, @By.ns, @By.rn, @By.up, @By.st, @By.ap, @By.aq, @By.rp⟩
theorem By.n_ite {c : Prop} [Decidable c] {x y : By} : (if c then x else y).n = if c then x.n else y.n := by split <;> rfl
theorem By.ite : (type_of% @By.n_ite) :=
  @By.n_ite

structure Ch where
  n : Int
instance : Inhabited Ch := ⟨⟨0⟩⟩
def Ch.e (t : Ch) : List AV := [vi t.n]
theorem Ch.ee {t : Ch} : Ch.e t = [vi t.n] := (rfl)
theorem Ch.pl {ts : List Ch} : plnLL (ts.map Ch.e) = true := plnLL_map (fun _ => rfl) ts
theorem Ch.ns {z : Nat} {ts : List Ch} : noslE (.arr z (ts.map Ch.e)) = true := nosl_map (fun _ => rfl) ts
theorem Ch.rn {n0 z : Nat} {is : List Nat} {ts : List Ch} : rnE n0 is (.arr z (ts.map Ch.e)) = .arr z (ts.map Ch.e) := rnE_pln Ch.pl
theorem Ch.up {n z : Nat} {r : List Nat} {ts : List Ch} : upE r n (.arr z (ts.map Ch.e)) = .arr z (ts.map Ch.e) := upE_pln Ch.pl
theorem Ch.st {ts : List Ch} {i : Nat} {a0 : Int} : (ts.map Ch.e).set i [vi a0] = (ts.set i ⟨a0⟩).map Ch.e := by rw [List.map_set]; rfl
theorem Ch.ap {ts : List Ch} {a0 : Int} : ts.map Ch.e ++ [[vi a0]] = (ts ++ [(⟨a0⟩ : Ch)]).map Ch.e := by rw [List.map_append]; rfl
theorem Ch.aq {ts us : List Ch} : ts.map Ch.e ++ us.map Ch.e = (ts ++ us).map Ch.e := by rw [List.map_append]
theorem Ch.rp {n : Nat} : List.replicate n [AV.v (.int .i64 0)] = (List.replicate n (default : Ch)).map Ch.e := by rw [List.map_replicate]; rfl
theorem Ch.row : (type_of% @Ch.ee) ∧ (type_of% @Ch.pl) ∧ (type_of% @Ch.ns) ∧ (type_of% @Ch.rn) ∧ (type_of% @Ch.up) ∧ (type_of% @Ch.st) ∧ (type_of% @Ch.ap) ∧ (type_of% @Ch.aq) ∧ (type_of% @Ch.rp) :=
  ⟨@Ch.ee, @Ch.pl, @Ch.ns, @Ch.rn, @Ch.up, @Ch.st, @Ch.ap, @Ch.aq, @Ch.rp⟩
theorem Ch.n_ite {c : Prop} [Decidable c] {x y : Ch} : (if c then x else y).n = if c then x.n else y.n := by split <;> rfl
theorem Ch.ite : (type_of% @Ch.n_ite) :=
  @Ch.n_ite
def Ch.ok (t : Ch) : Prop := I64 t.n
theorem Ch.of : ∀ {xs : List (List Int)}, (∀ e ∈ xs, e.length = 1 ∧ ∀ z ∈ e, (Lit.int .i64 z).wf = true) → ∃ ts : List Ch, els .i64 xs = ts.map Ch.e ∧ ts.length = xs.length ∧ ∀ t ∈ ts, t.ok
  | [], _ => ⟨[], rfl, rfl, by simp⟩
  | e :: xs, h => by
    obtain ⟨ts, h1, h2, h3⟩ := Ch.of (xs := xs) fun e he => h e (by simp [he])
    obtain ⟨h4, h5⟩ := h e (by simp)
    match e, h4, h5 with
    | [a0], _, h5 =>
      refine ⟨⟨a0⟩ :: ts, ?_, by simp [h2], ?_⟩
      · simp only [els, List.map_cons] at h1 ⊢
        rw [h1]; rfl
      · intro t ht
        rcases List.mem_cons.1 ht with rfl | ht
        · exact h5 _ (by simp)
        · exact h3 t ht

def byOk (cs : List By) : Prop := ∀ x ∈ cs, 0 ≤ x.n ∧ x.n ≤ 255
theorem byOk_at {cs : List By} (h : byOk cs) {i : Nat} (hi : i < cs.length) : 0 ≤ (cs.getD i default).n ∧ (cs.getD i default).n ≤ 255 := by
  have e : cs.getD i default = cs[i] := by simp [List.getD, List.getElem?_eq_getElem hi]
  rw [e]; exact h _ (List.getElem_mem hi)
theorem byOk_of : ∀ {xs : List (List Int)}, (∀ e ∈ xs, e.length = 1 ∧ ∀ z ∈ e, (Lit.int .u8 z).wf = true) → ∃ cs : List By, els .u8 xs = cs.map By.e ∧ cs.length = xs.length ∧ byOk cs
  | [], _ => ⟨[], rfl, rfl, fun _ h => by cases h⟩
  | e :: xs, h => by
    obtain ⟨ts, h1, h2, h3⟩ := byOk_of (xs := xs) fun e he => h e (by simp [he])
    obtain ⟨h4, h5⟩ := h e (by simp)
    match e, h4, h5 with
    | [a0], _, h5 =>
      refine ⟨⟨a0⟩ :: ts, ?_, by simp [h2], ?_⟩
      · simp only [els, List.map_cons] at h1 ⊢
        rw [h1]; rfl
      · intro t ht
        rcases List.mem_cons.1 ht with rfl | ht
        · have := h5 a0 (by simp)
          simpa [Lit.wf, IntKind.min, IntKind.max, IntKind.signed, IntKind.bits] using this
        · exact h3 t ht
theorem cur_up {r : List Nat} {n : Nat} {xs : List (List AV)} {a s : Int} : upE r n (.arr 3 [[.sl 1 xs, vi a, u64 s]]) = .arr 3 [[.sl 1 xs, vi a, u64 s]] := (rfl)
theorem and_255 (a : Int) : 0 ≤ IntKind.u64.wrap ((BitVec.ofInt 64 a &&& BitVec.ofInt 64 255).toNat : Nat) ∧ IntKind.u64.wrap ((BitVec.ofInt 64 a &&& BitVec.ofInt 64 255).toNat : Nat) ≤ 255 := by
  have h : (BitVec.ofInt 64 a &&& BitVec.ofInt 64 255).toNat ≤ 255 := by
    rw [BitVec.toNat_and]; exact Nat.and_le_right
  generalize (BitVec.ofInt 64 a &&& BitVec.ofInt 64 255).toNat = q at h
  have e : IntKind.u64.wrap (q : Int) = q := by
    rw [IntKind.wrap_u64]; omega
  rw [e]; omega
theorem ibin_shr {k : IntKind} {a b : Int} {c : AV → Prop} : ibin .shr k a b c = (0 ≤ b ∧ c (.v (.int k (a.fdiv (2 ^ (min b.toNat k.bits)))))) := (rfl)
theorem ibin_and {k : IntKind} {a b : Int} {c : AV → Prop} : ibin .and k a b c = c (.v (.int k (k.wrap (BitVec.ofInt k.bits a &&& BitVec.ofInt k.bits b).toNat))) := (rfl)
theorem and_255' (a : Int) : 0 ≤ IntKind.i64.wrap (IntKind.u64.wrap ((BitVec.ofInt IntKind.u64.bits a &&& BitVec.ofInt IntKind.u64.bits 255).toNat : Nat)) ∧ IntKind.i64.wrap (IntKind.u64.wrap ((BitVec.ofInt IntKind.u64.bits a &&& BitVec.ofInt IntKind.u64.bits 255).toNat : Nat)) ≤ 255 := by
  have h := and_255 a
  have e := wrap_id (n := IntKind.u64.wrap ((BitVec.ofInt 64 a &&& BitVec.ofInt 64 255).toNat : Nat)) (by omega) (by omega)
  show 0 ≤ IntKind.i64.wrap (IntKind.u64.wrap ((BitVec.ofInt 64 a &&& BitVec.ofInt 64 255).toNat : Nat)) ∧ IntKind.i64.wrap (IntKind.u64.wrap ((BitVec.ofInt 64 a &&& BitVec.ofInt 64 255).toNat : Nat)) ≤ 255
  rw [e]; exact h
set_option maxRecDepth 100000 in
set_option maxHeartbeats 4000000 in
theorem nextF_gc {cs : List By} {a s : Int} (hb : byOk cs) (ha : (0 ≤ a ∧ a ≤ 1000000000) ∧ cs.length ≤ 1048576) : GC Try.prog 111 [.ptr 0 0 0] [.arr 3 [[.sl 1 (cs.map By.e), vi (a), u64 ( s)]]] (fun r_ hs_ => ∃ (v sd : Int), (0 ≤ v ∧ v ≤ 255) ∧ r_ = vi v ∧ hs_ = [.arr 3 [[.sl 1 (cs.map By.e), vi (a + 1), u64 ( sd)]]]) := by
  refine GC.of_func [(2, .val 0 (.val 1 (.val 2 (.val 3 (.val 4 (.val 5 (.val 6 (.val 7 (.val 8 (.val 9 (.done))))))))))), (3, .val 0 (.val 1 (.val 2 (.val 3 (.val 4 (.val 5 (.val 6 (.val 7 (.val 8 (.val 9 (.val 10 (.val 11 (.done))))))))))))), (6, .val 0 (.val 1 (.val 2 (.val 3 (.val 4 (.val 5 (.val 6 (.val 7 (.val 8 (.val 9 (.done)))))))))))] Try.call111 Try.func111 rfl ⟨by kernel_rfl, by kernel_rfl⟩ (by kernel_rfl) ?_
  rw [Try.results111]
  simp -implicitDefEqProofs (maxSteps := 4000000) only [sim0, sim1, sim2, sim3, sim4, sim5, sim6, sim7, sim8, ↓reduceIte, Nat.reduceEqDiff, Nat.reduceAdd, Nat.reduceMul, Nat.reduceSub, Nat.reduceLT, Nat.reduceLeDiff, reduceCtorEq, Int.reduceToNat, Int.reduceNeg, Nat.reduceBEq, simx, ty, By.row, Ch.row, idxS_map, loadS_map, stoS_map, ← List.map_take, ← List.map_drop, ibin_shr, ibin_and]
  repeat' (first
    | ((with_reducible refine onFin ?_); first
      | (refine fin_K (by (try simp -implicitDefEqProofs (maxSteps := 4000000) only [sim0, sim1, sim2, sim3, sim4, sim5, sim6, sim7, sim8, ↓reduceIte, Nat.reduceEqDiff, Nat.reduceAdd, Nat.reduceMul, Nat.reduceSub, Nat.reduceLT, Nat.reduceLeDiff, reduceCtorEq, Int.reduceToNat, Int.reduceNeg, Nat.reduceBEq, simx, ty, fins, funs, idn, ids, List.filter_nil, List.filter_cons, List.map_nil, By.row, Ch.row, idxS_map, loadS_map, stoS_map, ← List.map_take, ← List.map_drop, ibin_shr, ibin_and]); first | done | (simp only [plnLL, pln, Value.oneCell', List.all_cons, List.all_nil, plnH, By.pl, Ch.pl, Bool.and_true, Bool.and_self]; done) | rfl) (by rfl) ?_; simp -implicitDefEqProofs (maxSteps := 4000000) only [sim0, sim1, sim2, sim3, sim4, sim5, sim6, sim7, sim8, ↓reduceIte, Nat.reduceEqDiff, Nat.reduceAdd, Nat.reduceMul, Nat.reduceSub, Nat.reduceLT, Nat.reduceLeDiff, reduceCtorEq, Int.reduceToNat, Int.reduceNeg, Nat.reduceBEq, simx, ty, fins, funs, idn, ids, List.filter_nil, List.filter_cons, List.map_nil, By.row, Ch.row, idxS_map, loadS_map, stoS_map, ← List.map_take, ← List.map_drop, ibin_shr, ibin_and]; ((have e8 : IntKind.i64.wrap (a + 1) = a + 1 := wrap_id (by omega) (by omega); rw [e8]; refine ⟨_, _, ?_, rfl, rfl⟩; first | exact and_255' _ | exact ⟨by decide, by decide⟩ | (have h := byOk_at hb (i := a.toNat) (by omega); have e := wrap_id (n := (cs.getD a.toNat default).n) (by omega) (by omega); rw [e]; exact h))))
      | fail)
    | ((exfalso; have e9 : IntKind.i64.wrap (a + 1) = a + 1 := wrap_id (by omega) (by omega); simp only [e9] at hq; omega))
    | (with_reducible refine ite_intro (fun hq => ?_) (fun hq => ?_))
    | (with_reducible refine And.intro (fun hq => ?_) (fun hq => ?_))
    | (with_reducible refine And.intro ?_ ?_)
    | ((fail_if_success (with_reducible refine onCode ?_)); (fail_if_success (with_reducible refine onLps ?_)); (fail_if_success (with_reducible refine onLpd ?_)); (fail_if_success (with_reducible refine onLpe ?_)); (fail_if_success (with_reducible refine onFin ?_)); (fail_if_success (with_reducible refine onCall ?_)); (fail_if_success (with_reducible refine onQcall ?_)); first | ((first | omega | decide); done) | omega | (rw [wrap_id (by omega) (by omega)]; omega) | ((have e8 : IntKind.i64.wrap (a + 1) = a + 1 := wrap_id (by omega) (by omega); rw [e8]; refine ⟨_, _, ?_, rfl, rfl⟩; first | exact and_255' _ | exact ⟨by decide, by decide⟩ | (have h := byOk_at hb (i := a.toNat) (by omega); have e := wrap_id (n := (cs.getD a.toNat default).n) (by omega) (by omega); rw [e]; exact h)))))

theorem tmod_bd {x n : Int} (hx : 0 ≤ x) (hn : 1 < n) : 0 ≤ x.tmod n ∧ x.tmod n < n := by
  rw [Int.tmod_eq_emod_of_nonneg hx]
  exact ⟨Int.emod_nonneg _ (by omega), Int.emod_lt_of_pos _ (by omega)⟩
theorem pick_bd {p q n : Int} (hp : 0 ≤ p ∧ p ≤ 255) (hq : 0 ≤ q ∧ q ≤ 255) (hn : 1 < n) : 0 ≤ (IntKind.i64.wrap (IntKind.i64.wrap (p * 256) + q)).tmod n ∧ (IntKind.i64.wrap (IntKind.i64.wrap (p * 256) + q)).tmod n < n := by
  have e1 : IntKind.i64.wrap (p * 256) = p * 256 := wrap_id (by omega) (by omega)
  have e2 : IntKind.i64.wrap (p * 256 + q) = p * 256 + q := wrap_id (by omega) (by omega)
  rw [e1, e2]; exact tmod_bd (by omega) hn
set_option maxRecDepth 100000 in
set_option maxHeartbeats 4000000 in
theorem pickF_gc {cs : List By} {a s n : Int} (hb : byOk cs) (ha : (0 ≤ a ∧ a ≤ 999999990) ∧ cs.length ≤ 1048576) : GC Try.prog 107 [.ptr 0 0 0, vi n] [.arr 3 [[.sl 1 (cs.map By.e), vi (a), u64 ( s)]]] (fun r_ hs_ => ∃ (v ad sd : Int), ((0 ≤ v ∧ (v < n ∨ (n ≤ 1 ∧ v = 0))) ∧ a ≤ ad ∧ ad ≤ a + 2) ∧ r_ = vi v ∧ hs_ = [.arr 3 [[.sl 1 (cs.map By.e), vi (ad), u64 ( sd)]]]) := by
  refine GC.of_func [] Try.call107 Try.func107 rfl ⟨by kernel_rfl, by kernel_rfl⟩ (by kernel_rfl) ?_
  rw [Try.results107]
  simp -implicitDefEqProofs (maxSteps := 4000000) only [sim0, sim1, sim2, sim3, sim4, sim5, sim6, sim7, sim8, ↓reduceIte, Nat.reduceEqDiff, Nat.reduceAdd, Nat.reduceMul, Nat.reduceSub, Nat.reduceLT, Nat.reduceLeDiff, reduceCtorEq, Int.reduceToNat, Int.reduceNeg, Nat.reduceBEq, simx, ty, By.row, Ch.row, idxS_map, loadS_map, stoS_map, ← List.map_take, ← List.map_drop]
  repeat' (first
    | ((with_reducible refine onCall ?_); first
      | (apply GC.useP false [0] (nextF_gc ?_ ?_) rfl ?he ?ha (fun h_ => Bool.noConfusion h_) ?_; (case he => (refine ⟨rfl, ?_, trivial⟩; (rw [cur_up]); exact rfl)); (case ha => (repeat' (first | exact arL_nil | refine arL_cons ?_ ?_ | exact ar_v | exact ar_sl | exact ar_ptr rfl | exact ar_own rfl | refine ar_agg ?_))); (all_goals (try (intro r_ hs_ hk_; obtain ⟨v, sd, hc_, rfl, rfl⟩ := hk_; (try simp -implicitDefEqProofs (maxSteps := 4000000) only [sim0, sim1, sim2, sim3, sim4, sim5, sim6, sim7, sim8, ↓reduceIte, Nat.reduceEqDiff, Nat.reduceAdd, Nat.reduceMul, Nat.reduceSub, Nat.reduceLT, Nat.reduceLeDiff, reduceCtorEq, Int.reduceToNat, Int.reduceNeg, Nat.reduceBEq, simx, ty, By.row, Ch.row, idxS_map, loadS_map, stoS_map, ← List.map_take, ← List.map_drop])))))
      | (refine GC.frzM rfl rfl ?_ ?_; (try (focus (first | decide | (simp only [List.length_cons, List.length_nil]; omega)))); rotate_left; (try simp only [List.set_cons_zero, List.set_cons_succ, unL_nil, unL_cons]); (apply GC.useP false [0] (nextF_gc ?_ ?_) rfl ?he ?ha (fun h_ => Bool.noConfusion h_) ?_; (case he => (refine ⟨rfl, ?_, trivial⟩; (rw [cur_up]); exact rfl)); (case ha => (repeat' (first | exact arL_nil | refine arL_cons ?_ ?_ | exact ar_v | exact ar_sl | exact ar_ptr rfl | exact ar_own rfl | refine ar_agg ?_))); (all_goals (try (intro r_ hs_ hk_; obtain ⟨v, sd, hc_, rfl, rfl⟩ := hk_; (try simp -implicitDefEqProofs (maxSteps := 4000000) only [sim0, sim1, sim2, sim3, sim4, sim5, sim6, sim7, sim8, ↓reduceIte, Nat.reduceEqDiff, Nat.reduceAdd, Nat.reduceMul, Nat.reduceSub, Nat.reduceLT, Nat.reduceLeDiff, reduceCtorEq, Int.reduceToNat, Int.reduceNeg, Nat.reduceBEq, simx, ty, By.row, Ch.row, idxS_map, loadS_map, stoS_map, ← List.map_take, ← List.map_drop]))))))
      | (refine GC.frzN rfl rfl ?_ ?_; (try (focus (first | decide | (simp only [List.length_cons, List.length_nil]; omega)))); rotate_left; (try simp only [List.set_cons_zero, List.set_cons_succ, List.drop_zero, unL_nil, unL_cons]); (apply GC.useP false [0] (nextF_gc ?_ ?_) rfl ?he ?ha (fun h_ => Bool.noConfusion h_) ?_; (case he => (refine ⟨rfl, ?_, trivial⟩; (rw [cur_up]); exact rfl)); (case ha => (repeat' (first | exact arL_nil | refine arL_cons ?_ ?_ | exact ar_v | exact ar_sl | exact ar_ptr rfl | exact ar_own rfl | refine ar_agg ?_))); (all_goals (try (intro r_ hs_ hk_; obtain ⟨v, sd, hc_, rfl, rfl⟩ := hk_; (try simp -implicitDefEqProofs (maxSteps := 4000000) only [sim0, sim1, sim2, sim3, sim4, sim5, sim6, sim7, sim8, ↓reduceIte, Nat.reduceEqDiff, Nat.reduceAdd, Nat.reduceMul, Nat.reduceSub, Nat.reduceLT, Nat.reduceLeDiff, reduceCtorEq, Int.reduceToNat, Int.reduceNeg, Nat.reduceBEq, simx, ty, By.row, Ch.row, idxS_map, loadS_map, stoS_map, ← List.map_take, ← List.map_drop]))))))
      | fail)
    | ((with_reducible refine onFin ?_); first
      | (refine fin_K (by (try simp -implicitDefEqProofs (maxSteps := 4000000) only [sim0, sim1, sim2, sim3, sim4, sim5, sim6, sim7, sim8, ↓reduceIte, Nat.reduceEqDiff, Nat.reduceAdd, Nat.reduceMul, Nat.reduceSub, Nat.reduceLT, Nat.reduceLeDiff, reduceCtorEq, Int.reduceToNat, Int.reduceNeg, Nat.reduceBEq, simx, ty, fins, funs, idn, ids, List.filter_nil, List.filter_cons, List.map_nil, By.row, Ch.row, idxS_map, loadS_map, stoS_map, ← List.map_take, ← List.map_drop]); first | done | (simp only [plnLL, pln, Value.oneCell', List.all_cons, List.all_nil, plnH, By.pl, Ch.pl, Bool.and_true, Bool.and_self]; done) | rfl) (by rfl) ?_; simp -implicitDefEqProofs (maxSteps := 4000000) only [sim0, sim1, sim2, sim3, sim4, sim5, sim6, sim7, sim8, ↓reduceIte, Nat.reduceEqDiff, Nat.reduceAdd, Nat.reduceMul, Nat.reduceSub, Nat.reduceLT, Nat.reduceLeDiff, reduceCtorEq, Int.reduceToNat, Int.reduceNeg, Nat.reduceBEq, simx, ty, fins, funs, idn, ids, List.filter_nil, List.filter_cons, List.map_nil, By.row, Ch.row, idxS_map, loadS_map, stoS_map, ← List.map_take, ← List.map_drop]; (first | (refine ⟨_, _, _, ?_, rfl, rfl⟩; omega) | (refine ⟨_, _, _, ⟨⟨(pick_bd (by assumption) (by assumption) (by omega)).1, .inl (pick_bd (by assumption) (by assumption) (by omega)).2⟩, ?_⟩, rfl, rfl⟩; omega) | (refine ⟨_, _, _, ⟨⟨(tmod_bd (by omega) (by omega)).1, .inl (tmod_bd (by omega) (by omega)).2⟩, ?_⟩, rfl, rfl⟩; omega) | fail))
      | fail)
    | (with_reducible refine ite_intro (fun hq => ?_) (fun hq => ?_))
    | (with_reducible refine And.intro (fun hq => ?_) (fun hq => ?_))
    | (with_reducible refine And.intro ?_ ?_)
    | ((fail_if_success (with_reducible refine onCode ?_)); (fail_if_success (with_reducible refine onLps ?_)); (fail_if_success (with_reducible refine onLpd ?_)); (fail_if_success (with_reducible refine onLpe ?_)); (fail_if_success (with_reducible refine onFin ?_)); (fail_if_success (with_reducible refine onCall ?_)); (fail_if_success (with_reducible refine onQcall ?_)); first | ((first | exact hb | omega); done) | omega | (rw [wrap_id (by omega) (by omega)]; omega) | (first | (refine ⟨_, _, _, ?_, rfl, rfl⟩; omega) | (refine ⟨_, _, _, ⟨⟨(pick_bd (by assumption) (by assumption) (by omega)).1, .inl (pick_bd (by assumption) (by assumption) (by omega)).2⟩, ?_⟩, rfl, rfl⟩; omega) | (refine ⟨_, _, _, ⟨⟨(tmod_bd (by omega) (by omega)).1, .inl (tmod_bd (by omega) (by omega)).2⟩, ?_⟩, rfl, rfl⟩; omega) | fail)))

/-- the numbers of a literal list -/
def unL : List (List AV) → List Ch
  | [] => []
  | e :: es => ⟨match e with | [.v (.int _ n)] => n | _ => 0⟩ :: unL es
theorem unL_nil : unL [] = [] := (rfl)
theorem unL_cons {n : Int} {es : List (List AV)} : unL ([.v (.int .i64 n)] :: es) = ⟨n⟩ :: unL es := (rfl)
theorem GC.frzM {P : Program} {k : FuncId} {hp : List Ent} {id len : Nat} {elems : List (List AV)} {a0 : AV} {K : AV → List Ent → Prop} (he : hp[id]? = some (.arr 1 elems)) (hx : elems = (unL elems).map Ch.e) (hl : len ≤ elems.length)
    (h : GC P k [a0, .sl 1 (((unL elems).take len).map Ch.e)] (hp.set id .dead) K) : GC P k [a0, .ref id len] hp K := by
  generalize unL elems = xs at hx h
  subst hx
  rw [List.map_take] at h
  have hr : rep1 id len (.sl 1 ((xs.map Ch.e).take len)) [a0, .ref id len] [a0, .sl 1 ((xs.map Ch.e).take len)] := ⟨.inl rfl, .inr ⟨rfl, rfl⟩, trivial⟩
  exact GC.frz1 he Ch.pl hl hr h
theorem GC.frzN {P : Program} {k : FuncId} {hp : List Ent} {id lo len : Nat} {elems : List (List AV)} {a0 : AV} {K : AV → List Ent → Prop} (he : hp[id]? = some (.arr 1 elems)) (hx : elems = (unL elems).map Ch.e) (hl : lo + len ≤ elems.length)
    (h : GC P k [a0, .sl 1 ((((unL elems).drop lo).take len).map Ch.e)] (hp.set id .dead) K) : GC P k [a0, .rs id lo len] hp K := by
  generalize unL elems = xs at hx h
  subst hx
  rw [List.map_take, List.map_drop] at h
  have hr : reps (.rs id lo len) (.sl 1 (((xs.map Ch.e).drop lo).take len)) [a0, .rs id lo len] [a0, .sl 1 (((xs.map Ch.e).drop lo).take len)] := ⟨.inl rfl, .inr ⟨rfl, rfl⟩, trivial⟩
  exact GC.frzS he Ch.pl hl hr h
theorem ch_mem {xs : List Ch} {i : Int} (h0 : 0 ≤ i) (h1 : i < xs.length) : (⟨(xs.getD i.toNat default).n⟩ : Ch) ∈ xs := by
  have hi : i.toNat < xs.length := by omega
  have e : xs.getD i.toNat default = xs[i.toNat] := by simp [List.getD, List.getElem?_eq_getElem hi]
  rw [e]; exact List.getElem_mem hi
theorem cut_eq {b v : Int} (hb : 0 ≤ b ∧ b ≤ 100) (hv : 0 ≤ v ∧ v < 1000) : IntKind.i64.wrap (b + IntKind.i64.wrap (v.tdiv 11)) = b + v / 11 := by
  rw [Int.tdiv_eq_ediv_of_nonneg hv.1]
  rw [wrap_id (n := v / 11) (by omega) (by omega)]
  exact wrap_id (by omega) (by omega)
set_option maxRecDepth 100000 in
set_option maxHeartbeats 4000000 in
theorem amongF_gc {cs : List By} {xs : List Ch} {a s : Int} (hb : byOk cs) (ha : (0 ≤ a ∧ a ≤ 999999900) ∧ cs.length ≤ 1048576) (hx : 1 ≤ xs.length ∧ xs.length ≤ 1048576) : GC Try.prog 90 [.ptr 0 0 0, .sl 1 (xs.map Ch.e)] [.arr 3 [[.sl 1 (cs.map By.e), vi (a), u64 ( s)]]] (fun r_ hs_ => ∃ (v ad sd : Int), ((⟨v⟩ : Ch) ∈ xs ∧ a ≤ ad ∧ ad ≤ a + 2) ∧ r_ = vi v ∧ hs_ = [.arr 3 [[.sl 1 (cs.map By.e), vi (ad), u64 ( sd)]]]) := by
  refine GC.of_func [] Try.call90 Try.func90 rfl ⟨by kernel_rfl, by kernel_rfl⟩ (by kernel_rfl) ?_
  rw [Try.results90]
  simp -implicitDefEqProofs (maxSteps := 4000000) only [sim0, sim1, sim2, sim3, sim4, sim5, sim6, sim7, sim8, ↓reduceIte, Nat.reduceEqDiff, Nat.reduceAdd, Nat.reduceMul, Nat.reduceSub, Nat.reduceLT, Nat.reduceLeDiff, reduceCtorEq, Int.reduceToNat, Int.reduceNeg, Nat.reduceBEq, simx, ty, By.row, Ch.row, idxS_map, loadS_map, stoS_map, ← List.map_take, ← List.map_drop]
  repeat' (first
    | ((with_reducible refine onCall ?_); first
      | (apply GC.useP false [0] (pickF_gc ?_ ?_) rfl ?he ?ha (fun h_ => Bool.noConfusion h_) ?_; (case he => (refine ⟨rfl, ?_, trivial⟩; (rw [cur_up]); exact rfl)); (case ha => (repeat' (first | exact arL_nil | refine arL_cons ?_ ?_ | exact ar_v | exact ar_sl | exact ar_ptr rfl | exact ar_own rfl | refine ar_agg ?_))); (all_goals (try (intro r_ hs_ hk_; obtain ⟨v, ad, sd, hc_, rfl, rfl⟩ := hk_; (try simp -implicitDefEqProofs (maxSteps := 4000000) only [sim0, sim1, sim2, sim3, sim4, sim5, sim6, sim7, sim8, ↓reduceIte, Nat.reduceEqDiff, Nat.reduceAdd, Nat.reduceMul, Nat.reduceSub, Nat.reduceLT, Nat.reduceLeDiff, reduceCtorEq, Int.reduceToNat, Int.reduceNeg, Nat.reduceBEq, simx, ty, By.row, Ch.row, idxS_map, loadS_map, stoS_map, ← List.map_take, ← List.map_drop])))))
      | (refine GC.frzM rfl rfl ?_ ?_; (try (focus (first | decide | (simp only [List.length_cons, List.length_nil]; omega)))); rotate_left; (try simp only [List.set_cons_zero, List.set_cons_succ, unL_nil, unL_cons]); (apply GC.useP false [0] (pickF_gc ?_ ?_) rfl ?he ?ha (fun h_ => Bool.noConfusion h_) ?_; (case he => (refine ⟨rfl, ?_, trivial⟩; (rw [cur_up]); exact rfl)); (case ha => (repeat' (first | exact arL_nil | refine arL_cons ?_ ?_ | exact ar_v | exact ar_sl | exact ar_ptr rfl | exact ar_own rfl | refine ar_agg ?_))); (all_goals (try (intro r_ hs_ hk_; obtain ⟨v, ad, sd, hc_, rfl, rfl⟩ := hk_; (try simp -implicitDefEqProofs (maxSteps := 4000000) only [sim0, sim1, sim2, sim3, sim4, sim5, sim6, sim7, sim8, ↓reduceIte, Nat.reduceEqDiff, Nat.reduceAdd, Nat.reduceMul, Nat.reduceSub, Nat.reduceLT, Nat.reduceLeDiff, reduceCtorEq, Int.reduceToNat, Int.reduceNeg, Nat.reduceBEq, simx, ty, By.row, Ch.row, idxS_map, loadS_map, stoS_map, ← List.map_take, ← List.map_drop]))))))
      | (refine GC.frzN rfl rfl ?_ ?_; (try (focus (first | decide | (simp only [List.length_cons, List.length_nil]; omega)))); rotate_left; (try simp only [List.set_cons_zero, List.set_cons_succ, List.drop_zero, unL_nil, unL_cons]); (apply GC.useP false [0] (pickF_gc ?_ ?_) rfl ?he ?ha (fun h_ => Bool.noConfusion h_) ?_; (case he => (refine ⟨rfl, ?_, trivial⟩; (rw [cur_up]); exact rfl)); (case ha => (repeat' (first | exact arL_nil | refine arL_cons ?_ ?_ | exact ar_v | exact ar_sl | exact ar_ptr rfl | exact ar_own rfl | refine ar_agg ?_))); (all_goals (try (intro r_ hs_ hk_; obtain ⟨v, ad, sd, hc_, rfl, rfl⟩ := hk_; (try simp -implicitDefEqProofs (maxSteps := 4000000) only [sim0, sim1, sim2, sim3, sim4, sim5, sim6, sim7, sim8, ↓reduceIte, Nat.reduceEqDiff, Nat.reduceAdd, Nat.reduceMul, Nat.reduceSub, Nat.reduceLT, Nat.reduceLeDiff, reduceCtorEq, Int.reduceToNat, Int.reduceNeg, Nat.reduceBEq, simx, ty, By.row, Ch.row, idxS_map, loadS_map, stoS_map, ← List.map_take, ← List.map_drop]))))))
      | fail)
    | ((with_reducible refine onFin ?_); first
      | (refine fin_K (by (try simp -implicitDefEqProofs (maxSteps := 4000000) only [sim0, sim1, sim2, sim3, sim4, sim5, sim6, sim7, sim8, ↓reduceIte, Nat.reduceEqDiff, Nat.reduceAdd, Nat.reduceMul, Nat.reduceSub, Nat.reduceLT, Nat.reduceLeDiff, reduceCtorEq, Int.reduceToNat, Int.reduceNeg, Nat.reduceBEq, simx, ty, fins, funs, idn, ids, List.filter_nil, List.filter_cons, List.map_nil, By.row, Ch.row, idxS_map, loadS_map, stoS_map, ← List.map_take, ← List.map_drop]); first | done | (simp only [plnLL, pln, Value.oneCell', List.all_cons, List.all_nil, plnH, By.pl, Ch.pl, Bool.and_true, Bool.and_self]; done) | rfl) (by rfl) ?_; simp -implicitDefEqProofs (maxSteps := 4000000) only [sim0, sim1, sim2, sim3, sim4, sim5, sim6, sim7, sim8, ↓reduceIte, Nat.reduceEqDiff, Nat.reduceAdd, Nat.reduceMul, Nat.reduceSub, Nat.reduceLT, Nat.reduceLeDiff, reduceCtorEq, Int.reduceToNat, Int.reduceNeg, Nat.reduceBEq, simx, ty, fins, funs, idn, ids, List.filter_nil, List.filter_cons, List.map_nil, By.row, Ch.row, idxS_map, loadS_map, stoS_map, ← List.map_take, ← List.map_drop]; (first | (refine ⟨_, _, _, ⟨ch_mem (by omega) (by omega), ?_⟩, rfl, rfl⟩; omega) | fail))
      | fail)
    | (with_reducible refine ite_intro (fun hq => ?_) (fun hq => ?_))
    | (with_reducible refine And.intro (fun hq => ?_) (fun hq => ?_))
    | (with_reducible refine And.intro ?_ ?_)
    | ((fail_if_success (with_reducible refine onCode ?_)); (fail_if_success (with_reducible refine onLps ?_)); (fail_if_success (with_reducible refine onLpd ?_)); (fail_if_success (with_reducible refine onLpe ?_)); (fail_if_success (with_reducible refine onFin ?_)); (fail_if_success (with_reducible refine onCall ?_)); (fail_if_success (with_reducible refine onQcall ?_)); first | ((first | exact hb | omega); done) | omega | (rw [wrap_id (by omega) (by omega)]; omega) | (first | (refine ⟨_, _, _, ⟨ch_mem (by omega) (by omega), ?_⟩, rfl, rfl⟩; omega) | fail)))

set_option maxRecDepth 100000 in
set_option maxHeartbeats 4000000 in
theorem oneF_gc {cs : List By} {a s n : Int} (hb : byOk cs) (ha : (0 ≤ a ∧ a ≤ 999999900) ∧ cs.length ≤ 1048576) : GC Try.prog 93 [.ptr 0 0 0, vi n] [.arr 3 [[.sl 1 (cs.map By.e), vi (a), u64 ( s)]]] (fun r_ hs_ => ∃ (v ad sd : Int), (a ≤ ad ∧ ad ≤ a + 2) ∧ r_ = vb (decide (v = 0)) ∧ hs_ = [.arr 3 [[.sl 1 (cs.map By.e), vi (ad), u64 ( sd)]]]) := by
  refine GC.of_func [] Try.call93 Try.func93 rfl ⟨by kernel_rfl, by kernel_rfl⟩ (by kernel_rfl) ?_
  rw [Try.results93]
  simp -implicitDefEqProofs (maxSteps := 4000000) only [sim0, sim1, sim2, sim3, sim4, sim5, sim6, sim7, sim8, ↓reduceIte, Nat.reduceEqDiff, Nat.reduceAdd, Nat.reduceMul, Nat.reduceSub, Nat.reduceLT, Nat.reduceLeDiff, reduceCtorEq, Int.reduceToNat, Int.reduceNeg, Nat.reduceBEq, simx, ty, By.row, Ch.row, idxS_map, loadS_map, stoS_map, ← List.map_take, ← List.map_drop]
  repeat' (first
    | ((with_reducible refine onCall ?_); first
      | (apply GC.useP false [0] (pickF_gc ?_ ?_) rfl ?he ?ha (fun h_ => Bool.noConfusion h_) ?_; (case he => (refine ⟨rfl, ?_, trivial⟩; (rw [cur_up]); exact rfl)); (case ha => (repeat' (first | exact arL_nil | refine arL_cons ?_ ?_ | exact ar_v | exact ar_sl | exact ar_ptr rfl | exact ar_own rfl | refine ar_agg ?_))); (all_goals (try (intro r_ hs_ hk_; obtain ⟨v, ad, sd, hc_, rfl, rfl⟩ := hk_; (try simp -implicitDefEqProofs (maxSteps := 4000000) only [sim0, sim1, sim2, sim3, sim4, sim5, sim6, sim7, sim8, ↓reduceIte, Nat.reduceEqDiff, Nat.reduceAdd, Nat.reduceMul, Nat.reduceSub, Nat.reduceLT, Nat.reduceLeDiff, reduceCtorEq, Int.reduceToNat, Int.reduceNeg, Nat.reduceBEq, simx, ty, By.row, Ch.row, idxS_map, loadS_map, stoS_map, ← List.map_take, ← List.map_drop])))))
      | (refine GC.frzM rfl rfl ?_ ?_; (try (focus (first | decide | (simp only [List.length_cons, List.length_nil]; omega)))); rotate_left; (try simp only [List.set_cons_zero, List.set_cons_succ, unL_nil, unL_cons]); (apply GC.useP false [0] (pickF_gc ?_ ?_) rfl ?he ?ha (fun h_ => Bool.noConfusion h_) ?_; (case he => (refine ⟨rfl, ?_, trivial⟩; (rw [cur_up]); exact rfl)); (case ha => (repeat' (first | exact arL_nil | refine arL_cons ?_ ?_ | exact ar_v | exact ar_sl | exact ar_ptr rfl | exact ar_own rfl | refine ar_agg ?_))); (all_goals (try (intro r_ hs_ hk_; obtain ⟨v, ad, sd, hc_, rfl, rfl⟩ := hk_; (try simp -implicitDefEqProofs (maxSteps := 4000000) only [sim0, sim1, sim2, sim3, sim4, sim5, sim6, sim7, sim8, ↓reduceIte, Nat.reduceEqDiff, Nat.reduceAdd, Nat.reduceMul, Nat.reduceSub, Nat.reduceLT, Nat.reduceLeDiff, reduceCtorEq, Int.reduceToNat, Int.reduceNeg, Nat.reduceBEq, simx, ty, By.row, Ch.row, idxS_map, loadS_map, stoS_map, ← List.map_take, ← List.map_drop]))))))
      | (refine GC.frzN rfl rfl ?_ ?_; (try (focus (first | decide | (simp only [List.length_cons, List.length_nil]; omega)))); rotate_left; (try simp only [List.set_cons_zero, List.set_cons_succ, List.drop_zero, unL_nil, unL_cons]); (apply GC.useP false [0] (pickF_gc ?_ ?_) rfl ?he ?ha (fun h_ => Bool.noConfusion h_) ?_; (case he => (refine ⟨rfl, ?_, trivial⟩; (rw [cur_up]); exact rfl)); (case ha => (repeat' (first | exact arL_nil | refine arL_cons ?_ ?_ | exact ar_v | exact ar_sl | exact ar_ptr rfl | exact ar_own rfl | refine ar_agg ?_))); (all_goals (try (intro r_ hs_ hk_; obtain ⟨v, ad, sd, hc_, rfl, rfl⟩ := hk_; (try simp -implicitDefEqProofs (maxSteps := 4000000) only [sim0, sim1, sim2, sim3, sim4, sim5, sim6, sim7, sim8, ↓reduceIte, Nat.reduceEqDiff, Nat.reduceAdd, Nat.reduceMul, Nat.reduceSub, Nat.reduceLT, Nat.reduceLeDiff, reduceCtorEq, Int.reduceToNat, Int.reduceNeg, Nat.reduceBEq, simx, ty, By.row, Ch.row, idxS_map, loadS_map, stoS_map, ← List.map_take, ← List.map_drop]))))))
      | fail)
    | ((with_reducible refine onFin ?_); first
      | (refine fin_K (by (try simp -implicitDefEqProofs (maxSteps := 4000000) only [sim0, sim1, sim2, sim3, sim4, sim5, sim6, sim7, sim8, ↓reduceIte, Nat.reduceEqDiff, Nat.reduceAdd, Nat.reduceMul, Nat.reduceSub, Nat.reduceLT, Nat.reduceLeDiff, reduceCtorEq, Int.reduceToNat, Int.reduceNeg, Nat.reduceBEq, simx, ty, fins, funs, idn, ids, List.filter_nil, List.filter_cons, List.map_nil, By.row, Ch.row, idxS_map, loadS_map, stoS_map, ← List.map_take, ← List.map_drop]); first | done | (simp only [plnLL, pln, Value.oneCell', List.all_cons, List.all_nil, plnH, By.pl, Ch.pl, Bool.and_true, Bool.and_self]; done) | rfl) (by rfl) ?_; simp -implicitDefEqProofs (maxSteps := 4000000) only [sim0, sim1, sim2, sim3, sim4, sim5, sim6, sim7, sim8, ↓reduceIte, Nat.reduceEqDiff, Nat.reduceAdd, Nat.reduceMul, Nat.reduceSub, Nat.reduceLT, Nat.reduceLeDiff, reduceCtorEq, Int.reduceToNat, Int.reduceNeg, Nat.reduceBEq, simx, ty, fins, funs, idn, ids, List.filter_nil, List.filter_cons, List.map_nil, By.row, Ch.row, idxS_map, loadS_map, stoS_map, ← List.map_take, ← List.map_drop]; (first | (refine ⟨_, _, _, ?_, rfl, rfl⟩; omega) | (refine ⟨0, _, _, ?_, rfl, rfl⟩; omega) | fail))
      | fail)
    | (with_reducible refine ite_intro (fun hq => ?_) (fun hq => ?_))
    | (with_reducible refine And.intro (fun hq => ?_) (fun hq => ?_))
    | (with_reducible refine And.intro ?_ ?_)
    | ((fail_if_success (with_reducible refine onCode ?_)); (fail_if_success (with_reducible refine onLps ?_)); (fail_if_success (with_reducible refine onLpd ?_)); (fail_if_success (with_reducible refine onLpe ?_)); (fail_if_success (with_reducible refine onFin ?_)); (fail_if_success (with_reducible refine onCall ?_)); (fail_if_success (with_reducible refine onQcall ?_)); first | ((first | exact hb | omega); done) | omega | (rw [wrap_id (by omega) (by omega)]; omega) | (first | (refine ⟨_, _, _, ?_, rfl, rfl⟩; omega) | (refine ⟨0, _, _, ?_, rfl, rfl⟩; omega) | fail)))

end Go.Proofs.Ytgcmahhejblpkaa
