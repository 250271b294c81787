/-
Plain laws on texts of plots: what a text is cut into.
No condition but those that the statements name.
-/
import Derived.Test.YtgcmahhejblpkaaC4
import Derived.Test.YtgcmahhejblpkaaC5
import Derived.Test.YtgcmahhejblpkaaVX
namespace Go.Proofs.Ytgcmahhejblpkaa
open Eng
set_option linter.unusedSimpArgs false
set_option linter.unusedVariables false
/-- the texts of a literal list -/
def unS : List (List AV) → List Sg
  | [] => []
  | e :: es => ⟨match e with | [.v (.string b)] => b | _ => ByteArray.empty⟩ :: unS es
theorem unS_nil : unS [] = [] := (rfl)
theorem unS_cons {b : ByteArray} {es : List (List AV)} : unS ([vs b] :: es) = ⟨b⟩ :: unS es := (rfl)
theorem GC.frzT {P : Program} {k : FuncId} {hp : List Ent} {id len : Nat} {elems : List (List AV)} {K : AV → List Ent → Prop} (he : hp[id]? = some (.arr 1 elems)) (hx : elems = (unS elems).map Sg.e) (hl : len ≤ elems.length)
    (h : GC P k [.sl 1 (((unS elems).take len).map Sg.e)] (hp.set id .dead) K) : GC P k [.ref id len] hp K := by
  generalize unS elems = xs at hx h
  subst hx
  rw [List.map_take] at h
  have hr : rep1 id len (.sl 1 ((xs.map Sg.e).take len)) [.ref id len] [.sl 1 ((xs.map Sg.e).take len)] := ⟨.inr ⟨rfl, rfl⟩, trivial⟩
  exact GC.frz1 he Sg.pl hl hr h
section
variable {t : ByteArray} {n : Int} {k : Nat}
theorem spL_sz {cur l : List UInt8} : ∀ w ∈ spL n cur l, w.length ≤ cur.length + l.length := by
  induction l generalizing cur with
  | nil => intro w hw; simp [spL] at hw; subst hw; simp
  | cons x xs ih =>
    intro w hw
    unfold spL at hw
    split at hw
    · rcases List.mem_cons.1 hw with rfl | hw
      · simp
      · have := ih w hw; simp at this ⊢; omega
    · have := ih w hw; simp at this ⊢; omega
theorem wd_sz : ((splS t n).getD k default).b.size ≤ t.size := by
  by_cases hk : k < (splS t n).length
  · have e : (splS t n).getD k default = (splS t n)[k] := by simp [List.getD, List.getElem?_eq_getElem hk]
    rw [e]
    have hm := List.getElem_mem hk
    generalize (splS t n)[k] = w at hm
    unfold splS at hm
    obtain ⟨l, hl, rfl⟩ := List.mem_map.1 hm
    have h2 := spL_sz l hl
    have h3 : (mkS l).size = l.length := by rw [← bs_len, bs_mkS]
    rw [h3]; rw [bs_len] at h2; simpa using h2
  · have e : (splS t n).getD k default = default := by simp [List.getD, List.getElem?_eq_none (Nat.le_of_not_lt hk)]
    rw [e]; exact Nat.zero_le _
theorem tl_eq {u v : ByteArray} (h : ¬ (u.toList == v.toList) = false) : v = u := by
  have h1 : u.toList = v.toList := by simpa using h
  rw [ByteArray.toList_eq, ByteArray.toList_eq] at h1
  exact (bs_inj h1).symm
theorem dig_no {n : Nat} {c : Int} (hc : c < 48) : ∀ y ∈ bs (numS n), ¬ (y.toNat : Int) = c := by
  intro y hy e
  have := (numS_val n).1 y hy
  omega
theorem c32 : (((32 : UInt8).toNat : Nat) : Int) = 32 := rfl
theorem c47 : (((47 : UInt8).toNat : Nat) : Int) = 47 := rfl
end
def dgB (e : It) : UInt8 := UInt8.ofNat (48 + e.n.toNat)
/-- the numbers of a word's bytes -/
def plD (w : ByteArray) : List It := (bs w).map fun x => ⟨(x.toNat : Int) - 48⟩
section
variable {s a x y i : Int} {ts us : List It} {t w o : ByteArray}
theorem ptS_b (h : ∀ i : Int, 0 ≤ i → i < ts.length → 1 ≤ ig ts i ∧ ig ts i ≤ 9) : bs (ptS s a x y ts) = bs (ptH s a x y) ++ ts.map dgB := by
  unfold ptS
  have key := foldI_ind (f := ptF ts) (n := ts.length) (fun (o : ByteArray) j => bs o = bs (ptH s a x y) ++ (ts.take j.toNat).map dgB) (a := ptH s a x y) (i := 0) (by omega) (by simp) (fun o j h1 h2 hj => by
    (try simp only [] at hj ⊢)
    have hi := h j h1 h2
    have e : (j + 1).toNat = j.toNat + 1 := by omega
    have hl : j.toNat < ts.length := by omega
    have e2 : ig ts j = ts[j.toNat].n := by unfold ig; simp [List.getD, List.getElem?_eq_getElem hl]
    unfold ptF
    rw [bs_app, hj, numS_small (by omega), (dgS_b (d := (ig ts j).toNat) (by omega)).1, e, List.take_add_one, List.getElem?_eq_getElem hl, List.map_append, List.append_assoc, e2]
    rfl)
  have e3 : (ts.take (ts.length : Int).toNat) = ts := by simp
  have k2 : bs (foldI (ptF ts) (ptH s a x y) 0 ts.length) = bs (ptH s a x y) ++ (ts.take (ts.length : Int).toNat).map dgB := key
  rw [k2, e3]
theorem bsL : bs ⟨#[58, 32]⟩ = [58, 32] ∧ bs ⟨#[32, 97, 116, 32]⟩ = [32, 97, 116, 32] ∧ bs ⟨#[47]⟩ = [47] ∧ bs ⟨#[32, 98, 121, 32]⟩ = [32, 98, 121, 32] := ⟨rfl, rfl, rfl, rfl⟩
theorem plot_b (h : ∀ i : Int, 0 ≤ i → i < ts.length → 1 ≤ ig ts i ∧ ig ts i ≤ 9) : bs (ptS s a x y ts) = (bs (numS s.toNat) ++ [58]) ++ 32 :: (bs (numS a.toNat) ++ 32 :: ([97, 116] ++ 32 :: ((bs (numS x.toNat) ++ 47 :: bs (numS y.toNat)) ++ 32 :: ([98, 121] ++ 32 :: ts.map dgB)))) := by
  rw [ptS_b h]
  unfold ptH
  simp only [bs_app, bsL, List.append_assoc, List.cons_append, List.nil_append]
theorem no_0 {n : Nat} : ∀ y ∈ bs (numS n) ++ [58], ¬ (y.toNat : Int) = 32 := by
  intro y hy
  rcases List.mem_append.1 hy with hy | hy
  · exact dig_no (by omega) y hy
  · simp only [List.mem_singleton] at hy; subst hy; decide
theorem no_at : ∀ y ∈ ([97, 116] : List UInt8), ¬ (y.toNat : Int) = 32 := by decide
theorem no_by : ∀ y ∈ ([98, 121] : List UInt8), ¬ (y.toNat : Int) = 32 := by decide
theorem no_place {a b : Nat} : ∀ y ∈ bs (numS a) ++ 47 :: bs (numS b), ¬ (y.toNat : Int) = 32 := by
  intro y hy
  rcases List.mem_append.1 hy with hy | hy
  · exact dig_no (by omega) y hy
  · rcases List.mem_cons.1 hy with rfl | hy
    · decide
    · exact dig_no (by omega) y hy
theorem dgB_n {e : It} (h : 1 ≤ e.n ∧ e.n ≤ 9) : ((dgB e).toNat : Int) = 48 + e.n := by
  unfold dgB
  rw [UInt8.toNat_ofNat']; omega
theorem it_bd (h : ∀ i : Int, 0 ≤ i → i < ts.length → 1 ≤ ig ts i ∧ ig ts i ≤ 9) : ∀ e ∈ ts, 1 ≤ e.n ∧ e.n ≤ 9 := by
  intro e he
  obtain ⟨n, hn, rfl⟩ := List.getElem_of_mem he
  have := h n (by omega) (by omega)
  unfold ig at this
  simpa [List.getD, List.getElem?_eq_getElem hn] using this
theorem no_dg (h : ∀ e ∈ ts, 1 ≤ e.n ∧ e.n ≤ 9) : ∀ y ∈ ts.map dgB, ¬ (y.toNat : Int) = 32 := by
  intro y hy
  obtain ⟨e, he, rfl⟩ := List.mem_map.1 hy
  rw [dgB_n (h e he)]
  have := h e he; omega
theorem plot6 (h : ∀ i : Int, 0 ≤ i → i < ts.length → 1 ≤ ig ts i ∧ ig ts i ≤ 9) : splS (ptS s a x y ts) 32 = [⟨mkS (bs (numS s.toNat) ++ [58])⟩, ⟨numS a.toNat⟩, ⟨mkS [97, 116]⟩, ⟨mkS (bs (numS x.toNat) ++ 47 :: bs (numS y.toNat))⟩, ⟨mkS [98, 121]⟩, ⟨mkS (ts.map dgB)⟩] := by
  unfold splS
  rw [plot_b h, spL_word no_0 c32, spL_word (dig_no (by omega)) c32, spL_word no_at c32, spL_word no_place c32, spL_word no_by c32, spL_last (no_dg (it_bd h))]
  simp only [List.nil_append, List.map_cons, List.map_nil, mkS_bs]
theorem place2 {a b : Nat} : splS (mkS (bs (numS a) ++ 47 :: bs (numS b))) 47 = [⟨numS a⟩, ⟨numS b⟩] := by
  unfold splS
  rw [bs_mkS, spL_word (dig_no (by omega)) c47, spL_last (dig_no (by omega))]
  simp only [List.nil_append, List.map_cons, List.map_nil, mkS_bs]
theorem plD_dg (h : ∀ e ∈ ts, 1 ≤ e.n ∧ e.n ≤ 9) : plD (mkS (ts.map dgB)) = ts := by
  unfold plD
  rw [bs_mkS, List.map_map]
  have : ∀ e ∈ ts, ((fun (x : UInt8) => (⟨(x.toNat : Int) - 48⟩ : It)) ∘ dgB) e = id e := by
    intro e he
    simp only [Function.comp, id]
    rw [dgB_n (h e he)]
    have : 48 + e.n - 48 = e.n := by omega
    rw [this]
  rw [List.map_congr_left this, List.map_id]
theorem ptS_sz (h : plotB s a x y ts = true) : (ptS s a x y ts).size ≤ 60 := by
  obtain ⟨b, c⟩ := plot_bd h
  have a1 := numS_sz 4 s.toNat (by omega)
  have a2 := numS_sz 4 a.toNat (by omega)
  have a3 := numS_sz 3 x.toNat (by omega)
  have a4 := numS_sz 3 y.toNat (by omega)
  rw [← bs_len, ptS_b c, List.length_append, List.length_map, bs_len]
  unfold ptH
  simp only [ByteArray.size_append, litSz]
  omega
/-- what is known of a text that is the text of a plot -/
structure PlF (t : ByteArray) (s a x y : Int) (ts : List It) : Prop where
  rg : (0 ≤ s ∧ s ≤ 86400) ∧ (1 ≤ a ∧ a ≤ 65535) ∧ (0 ≤ x ∧ x ≤ 9899) ∧ (0 ≤ y ∧ y ≤ 9899) ∧ 1 ≤ (ts.length : Int) ∧ (ts.length : Int) ≤ 9
  len : (splS t 32).length = 6
  w0s : 2 ≤ ((splS t 32).getD 0 default).b.size
  w0 : ((splS t 32).getD 0 default).b.extract 0 (((splS t 32).getD 0 default).b.size - 1) = numS s.toNat
  w1 : ((splS t 32).getD 1 default).b = numS a.toNat
  w3 : splS ((splS t 32).getD 3 default).b 47 = [⟨numS x.toNat⟩, ⟨numS y.toNat⟩]
  w5 : plD ((splS t 32).getD 5 default).b = ts
  sz : t.size ≤ 60
theorem pl_of (h : plotB s a x y ts = true) (e : t = ptS s a x y ts) : PlF t s a x y ts := by
  obtain ⟨b, c⟩ := plot_bd h
  have hz := ptS_sz h
  subst e
  have g := plot6 (s := s) (a := a) (x := x) (y := y) c
  have n1 := (numS_val s.toNat).2.2.1
  have e0 : ((splS (ptS s a x y ts) 32).getD 0 default).b = mkS (bs (numS s.toNat) ++ [58]) := by rw [g]; rfl
  have e1 : (mkS (bs (numS s.toNat) ++ [58])).size = (bs (numS s.toNat)).length + 1 := by rw [← bs_len, bs_mkS]; simp
  exact { rg := b, len := by rw [g]; rfl, w0s := by rw [e0, e1]; omega, w0 := by rw [e0, e1, ext_eq, bs_mkS, Nat.add_sub_cancel, List.take_left, List.drop_zero, mkS_bs], w1 := by rw [g]; rfl, w3 := by rw [g]; exact place2, w5 := by rw [g]; exact plD_dg (it_bd c), sz := hz }
end
end Go.Proofs.Ytgcmahhejblpkaa
