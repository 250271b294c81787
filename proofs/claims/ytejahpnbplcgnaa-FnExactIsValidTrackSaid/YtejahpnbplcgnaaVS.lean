/-
An abstract interpreter of the program's code on plain data: part S, how calls, loops and the ends of functions are met in a proof.
No condition: everything here is stated over any program.
-/
import Derived.Test.YtejahpnbplcgnaaVQ
namespace Go.Proofs.Ytejahpnbplcgnaa
namespace Eng
set_option linter.unusedVariables false
set_option linter.unusedSimpArgs false

variable {P : Program} {n0 : Nat} {pl : List (Nat × Plan)} {hp hs : List Ent} {l : List (Nat × AV)}

theorem rdL_same : ∀ {as : List AV}, noid.noidL as = true → RdL hp as as
  | [], _ => trivial
  | a :: as, h => by
    simp only [noid.noidL, Bool.and_eq_true] at h
    exact ⟨.same a h.1, rdL_same h.2⟩
theorem GC.callS {k : FuncId} {args : List AV} {r0 : AV} {K : AV → List Ent → Prop} (h : GC P k args [] (fun r hs => r = r0 ∧ hs = [])) (hn : noid.noidL args = true) (hf : flat r0 = true) (hK : K r0 hp) : GC P k args hp K :=
  GC.pureU h hf (rdL_same hn) hK
theorem qcallS {k : FuncId} {args : List AV} {r0 : AV} {c : AV → Prop} (h : GC P k args [] (fun r hs => r = r0 ∧ hs = [])) (hn : noid.noidL args = true) (hf : flat r0 = true) (hc : c r0) : qcall P k args hp c :=
  qcall_use h hf (rdL_same hn) hc
theorem GC.callR {k : FuncId} {args as : List AV} {r0 : AV} {K : AV → List Ent → Prop} (hr : RdL hp args as) (h : GC P k as [] (fun r hs => r = r0 ∧ hs = [])) (hf : flat r0 = true) (hK : K r0 hp) : GC P k args hp K :=
  GC.pureU h hf hr hK
theorem qcallR {k : FuncId} {args as : List AV} {r0 : AV} {c : AV → Prop} (hr : RdL hp args as) (h : GC P k as [] (fun r hs => r = r0 ∧ hs = [])) (hf : flat r0 = true) (hc : c r0) : qcall P k args hp c :=
  qcall_use h hf hr hc

theorem wrap_id {n : Int} (h1 : -9223372036854775808 ≤ n) (h2 : n ≤ 9223372036854775807) : IntKind.i64.wrap n = n := by
  rw [IntKind.wrap_i64]; omega

/- ends of functions -/
theorem rn_v {is : List Nat} {x : Value} : rn n0 is (.v x) = .v x := (rfl)
theorem rn_sl {is : List Nat} {z : Nat} {xs : List (List AV)} : rn n0 is (.sl z xs) = .sl z xs := (rfl)
theorem rn_agg {is : List Nat} {cs : List AV} : rn n0 is (.agg cs) = .agg (rn.rnL n0 is cs) := (rfl)
theorem rn_tup {is : List Nat} {cs : List AV} : rn n0 is (.tup cs) = .tup (rn.rnL n0 is cs) := (rfl)
theorem rnL_nil {is : List Nat} : rn.rnL n0 is [] = [] := (rfl)
theorem rnL_cons {is : List Nat} {c : AV} {cs : List AV} : rn.rnL n0 is (c :: cs) = rn n0 is c :: rn.rnL n0 is cs := (rfl)
def rnO (f : Nat → AV) : Option Nat → AV
  | some j => f j
  | none => .top
theorem rnO_some {f : Nat → AV} {j : Nat} : rnO f (some j) = f j := (rfl)
theorem rn_ref {is : List Nat} {id len : Nat} : rn n0 is (.ref id len) = rnO (fun j => .ref j len) (rnId n0 is id) := (rfl)
theorem rn_rs {is : List Nat} {id lo len : Nat} : rn n0 is (.rs id lo len) = rnO (fun j => .rs j lo len) (rnId n0 is id) := (rfl)
theorem rn_ptr {is : List Nat} {id i o : Nat} : rn n0 is (.ptr id i o) = rnO (fun j => .ptr j i o) (rnId n0 is id) := (rfl)
theorem rnId_eq {is : List Nat} {id : Nat} : rnId n0 is id = if id < n0 then some id else (pos id is).map (n0 + ·) := (rfl)
theorem pos_nil {x : Nat} : pos x [] = none := (rfl)
theorem pos_cons {x y : Nat} {l : List Nat} : pos x (y :: l) = if y = x then some 0 else (pos x l).map (· + 1) := (rfl)
theorem rnE_pln {is : List Nat} {sz : Nat} {elems : List (List AV)} (h : plnLL elems = true) : rnE n0 is (.arr sz elems) = .arr sz elems := by simp [rnE, rnLL, h]
theorem rnE_dead {is : List Nat} : rnE n0 is .dead = .dead := (rfl)
theorem rnE_one {is : List Nat} {sz : Nat} {b : List AV} : rnE n0 is (.arr sz [b]) = .arr sz [rn.rnL n0 is b] := by
  simp only [rnE, rnLL]
  split
  · rename_i h
    have key : ∀ b : List AV, b.all pln = true → rn.rnL n0 is b = b := by
      intro b
      induction b with
      | nil => intro _; rfl
      | cons x b ih =>
        intro h
        simp only [List.all_cons, Bool.and_eq_true] at h
        simp only [rn.rnL, ih h.2]
        cases x <;> simp [pln] at h <;> rfl
    simp only [plnLL, Bool.and_true] at h
    rw [key b h]
  · rfl
theorem kept_eq {is : List Nat} : kept n0 is hp = (hp.take n0).map (rnE n0 is) ++ is.map (fun i => rnE n0 is (hp.getD i .dead)) := (rfl)
theorem fin_nil {r r0 : AV} (h : rn 0 [] r = r0) : fin 0 r hp (fun r hs => r = r0 ∧ hs = []) := ⟨[], ⟨rfl, rfl⟩, h, rfl⟩
theorem fin_law {b : Bool} (h : b = true) : fin 0 (vb b) hp (fun r _ => r = vb true) := ⟨[], ⟨rfl, rfl⟩, by rw [h]; rfl⟩

/- loops' ends -/
theorem lps_end {α : Type} {mods : α → List (Nat × AV)} {tops : List Nat} {J : α → Prop} {ν : α → Nat} {a : α} {Q : Exit → St → Prop} {sl : List (Nat × AV)} (a' : α) (h1 : agr sl (mods a'))
    (h2 : und ((mods a').map (·.1) ++ tops) l sl) (h3 : J a') (h4 : ν a' < ν a) : lps mods tops l hp J ν a Q .normal ⟨sl, hp⟩ := ⟨a', h1, h2, rfl, h3, h4⟩
theorem und_drop {ks : List Nat} {k : Nat} {v : AV} {r : List (Nat × AV)} (h : ks.contains k = true) (h2 : und ks l r) : und ks l ((k, v) :: r) := .inr ⟨h, h2⟩
theorem und_refl {ks : List Nat} : und ks l l := by rw [und_same]; trivial
theorem agr_one {k : Nat} {v : AV} {r : List (Nat × AV)} (h : lk l k = v) (h2 : agr l r) : agr l ((k, v) :: r) := ⟨h, h2⟩
theorem ite_intro {c : Prop} [Decidable c] {A B : Prop} (h : c → A) (h' : ¬c → B) : if c then A else B := by split <;> simp_all
theorem lk_hd {k : Nat} {v : AV} {r : List (Nat × AV)} : lk ((k, v) :: r) k = v := by simp [lk]
theorem lk_tl {k j : Nat} {u v : AV} {r : List (Nat × AV)} (h : ¬ k = j) (h2 : lk r j = v) : lk ((k, u) :: r) j = v := by simp [lk, h, h2]
theorem agr_none : agr l [] := trivial

theorem sim7 : (type_of% @lps_ret) ∧ (type_of% @lps_exit) ∧ (type_of% @lpe_ret) ∧ (type_of% @lpe_exit) ∧ (type_of% @tp_nil) ∧ (type_of% @tp_cons) ∧ (type_of% @clr_nil) ∧ (type_of% @clr_cons) ∧ (type_of% @big_v) ∧ (type_of% @big_sl) ∧ (type_of% @big_ep) ∧ (type_of% @big_top) ∧ (type_of% @big_ref) ∧ (type_of% @big_rs) ∧ (type_of% @big_ptr) ∧ (type_of% @big_agg) ∧ (type_of% @big_tup) ∧ (type_of% @bigL_nil) ∧ (type_of% @bigL_cons) ∧ (type_of% @up_v) ∧ (type_of% @up_sl) ∧ (type_of% @up_agg) ∧ (type_of% @up_tup) ∧ (type_of% @up_ref) ∧ (type_of% @up_rs) ∧ (type_of% @up_ptr) ∧ (type_of% @upL_nil) ∧ (type_of% @upL_cons) ∧ (type_of% @upId_eq) ∧ (type_of% @mrg_eq) ∧ (type_of% @setL_nil) ∧ (type_of% @setL_cons) ∧ (type_of% @upE_dead) ∧ (type_of% @upE_one) :=
  ⟨@lps_ret, @lps_exit, @lpe_ret, @lpe_exit, @tp_nil, @tp_cons, @clr_nil, @clr_cons, @big_v, @big_sl, @big_ep, @big_top, @big_ref, @big_rs, @big_ptr, @big_agg, @big_tup, @bigL_nil, @bigL_cons, @up_v, @up_sl, @up_agg, @up_tup, @up_ref, @up_rs, @up_ptr, @upL_nil, @upL_cons, @upId_eq, @mrg_eq, @setL_nil, @setL_cons, @upE_dead, @upE_one⟩
theorem fins : (type_of% @rn_v) ∧ (type_of% @rn_sl) ∧ (type_of% @rn_agg) ∧ (type_of% @rn_tup) ∧ (type_of% @rnL_nil) ∧ (type_of% @rnL_cons) ∧ (type_of% @rnO_some) ∧ (type_of% @rn_ref) ∧ (type_of% @rn_rs) ∧ (type_of% @rn_ptr) ∧ (type_of% @rnId_eq) ∧ (type_of% @pos_nil) ∧ (type_of% @pos_cons) ∧ (type_of% @rnE_dead) ∧ (type_of% @rnE_one) ∧ (type_of% @kept_eq) :=
  ⟨@rn_v, @rn_sl, @rn_agg, @rn_tup, @rnL_nil, @rnL_cons, @rnO_some, @rn_ref, @rn_rs, @rn_ptr, @rnId_eq, @pos_nil, @pos_cons, @rnE_dead, @rnE_one, @kept_eq⟩
end Eng
end Go.Proofs.Ytejahpnbplcgnaa
