/-
From the reading of an argument to plain data: what the statements' rows hand over, opened for every type that is made of integers, slices of such, and structs.
No condition: everything here is stated over any program.
-/
import Derived.Test.YtgcmahhejblpkaaVK
import Derived.Deep.Slices
import Derived.ChangeArms
namespace Go.Proofs.Ytgcmahhejblpkaa
namespace Eng
set_option linter.unusedVariables false
set_option linter.unusedSimpArgs false
open Go.Deep

/-- what one cell of a type holds -/
inductive CS where
  | int (k : IntKind)
  | str
  | slice (k : IntKind) (n : Nat)
  deriving DecidableEq

def allK (k : IntKind) : List CS → Bool
  | [] => true
  | .int k' :: l => decide (k' = k) && allK k l
  | _ => false

def shpF (g : TypeId → Option (List CS)) (cells : TypeId → Nat) : List Field → Nat → Option (List CS)
  | [], _ => some []
  | f :: fs, off =>
    match g f.type with
    | some l => if f.offset = off ∧ cells f.type = l.length then
        match shpF g cells fs (off + l.length) with
        | some r => some (l ++ r)
        | none => none
      else none
    | none => none

def shp (P : Program) : Nat → TypeId → Option (List CS)
  | 0, _ => none
  | d + 1, t =>
    match P.underlying t with
    | some (.int k) => some [.int k]
    | some .string => some [.str]
    | some (.slice e) =>
      match shp P d e with
      | some (.int k :: l) => if allK k l = true ∧ P.cellsOf e = l.length + 1 then some [.slice k (l.length + 1)] else none
      | _ => none
    | some (.struct fs) =>
      match shpF (shp P d) P.cellsOf fs.toList 0 with
      | some l => if P.cellsOf t = l.length then some l else none
      | none => none
    | _ => none

/-- the elements of a slice of structs of n integers -/
def els (k : IntKind) (xs : List (List Int)) : List (List AV) := xs.map fun e => e.map fun z => AV.v (.int k z)

def CellOK (w : World) : CS → Value → Prop
  | .int k, c => ∃ n, c = .int k n ∧ (Lit.int k n).wf = true
  | .str, c => ∃ s : ByteArray, c = .string s ∧ s.size ≤ maxLen
  | .slice k n, c => ∃ xs : List (List Int), RepA [] w (fun b => b < w.heap.size) (.sl n (els k xs)) c ∧ (∀ e ∈ xs, e.length = n ∧ ∀ z ∈ e, (Lit.int k z).wf = true) ∧ xs.length ≤ maxLen

def CellsOK (w : World) : List CS → List Value → Prop
  | [], [] => True
  | k :: l, c :: cs => CellOK w k c ∧ CellsOK w l cs
  | _, _ => False

theorem CellsOK.cons {w : World} {k : CS} {l : List CS} {cs : List Value} (h : CellsOK w (k :: l) cs) : ∃ c r, cs = c :: r ∧ CellOK w k c ∧ CellsOK w l r := by
  cases cs with
  | nil => exact h.elim
  | cons c r => exact ⟨c, r, rfl, h.1, h.2⟩
theorem CellsOK.nil {w : World} {cs : List Value} (h : CellsOK w [] cs) : cs = [] := by
  cases cs with
  | nil => rfl
  | cons c r => exact h.elim
theorem CellsOK.append {w : World} : ∀ {l l' : List CS} {cs cs' : List Value}, CellsOK w l cs → CellsOK w l' cs' → CellsOK w (l ++ l') (cs ++ cs')
  | [], l', cs, cs', h, h' => by rw [h.nil]; exact h'
  | k :: l, l', cs, cs', h, h' => by
    obtain ⟨c, r, rfl, h1, h2⟩ := h.cons
    exact ⟨h1, h2.append h'⟩
theorem CellsOK.length {w : World} : ∀ {l : List CS} {cs : List Value}, CellsOK w l cs → cs.length = l.length
  | [], cs, h => by simp [h.nil]
  | k :: l, cs, h => by
    obtain ⟨c, r, rfl, h1, h2⟩ := h.cons
    simp [h2.length]

theorem CellsOK.ints {w : World} {k : IntKind} : ∀ {l : List CS} {cs : List Value}, allK k l = true → CellsOK w l cs →
    ∃ ns : List Int, cs = ns.map (.int k) ∧ ns.length = l.length ∧ ∀ z ∈ ns, (Lit.int k z).wf = true
  | [], cs, _, h => ⟨[], by rw [h.nil]; rfl, rfl, by simp⟩
  | .int k' :: l, cs, hk, h => by
    simp only [allK, Bool.and_eq_true, decide_eq_true_eq] at hk
    obtain ⟨c, r, rfl, ⟨n, rfl, hn⟩, h2⟩ := h.cons
    obtain ⟨ns, rfl, hl, hw⟩ := CellsOK.ints hk.2 h2
    rw [hk.1] at hn
    exact ⟨n :: ns, by simp [hk.1], by simp [hl], by simpa using ⟨hn, hw⟩⟩
  | .str :: l, cs, hk, h => by simp [allK] at hk
  | .slice _ _ :: l, cs, hk, h => by simp [allK] at hk

section
variable {H : Type} {enc : TypeId × Value → H} {P : Program} {w : World} {base : Nat} {spare : Nat → Bool} {held : Bool}

theorem cell_block {a : Addr} {v : Value} (h : w.cell? a = some v) : ∃ cur T fz, w.heap[a.block]? = some (.cells cur T fz) ∧ a.spot = none ∧ cur[a.off]? = some v := by
  unfold World.cell? at h
  split at h
  · rename_i c T fz hb
    split at h
    · cases h
    · rename_i hs
      exact ⟨c, T, fz, hb, by simpa using hs, h⟩
  · cases h

theorem spot_add {a : Addr} {i : Nat} (h : (a.add i).spot = none) (h0 : a.spot = none) : (a.add i).block = a.block ∧ (a.add i).off = a.off + i := by
  unfold Addr.add; split <;> simp_all

theorem slice_rep {t e : TypeId} {k : IntKind} {n fuel : Nat} {cs : List Value} {x : DataW H × List MemPlace} (ht : P.underlying t = some (.slice e)) (hn : 0 < n) (hc : P.cellsOf e = n)
    (ih : ∀ (fuel : Nat) (cs : List Value) (x : DataW H × List MemPlace), DataW.trod enc P w base spare held fuel e cs = some x → ∃ ns : List Int, cs = ns.map (.int k) ∧ ns.length = n ∧ ∀ z ∈ ns, (Lit.int k z).wf = true)
    (h : DataW.trod enc P w base spare held fuel t cs = some x) : ∃ c, cs = [c] ∧ CellOK w (.slice k n) c := by
  rcases open_slice ht h with ⟨rfl, _⟩ | ⟨a, len, cap, m, n', D', Pl, rfl, hba, hlc, hmax, hm, _, hel⟩
  · exact ⟨_, rfl, [], by simpa [els] using RepA.nil (m := []) (w := w) (F := fun b => b < w.heap.size) n none 0, by simp, by simp⟩
  · refine ⟨_, rfl, ?_⟩
    rcases Nat.eq_zero_or_pos len with h0 | h0
    · subst h0
      exact ⟨[], by simpa [els] using RepA.nil (m := []) (w := w) (F := fun b => b < w.heap.size) n (some a) cap, by simp, by simp⟩
    · have hlm : len ≤ m := by rw [hm]; split <;> omega
      have each : ∀ i, i < len → ∃ ns : List Int, ns.length = n ∧ (∀ z ∈ ns, (Lit.int k z).wf = true) ∧ ∀ j, j < n → w.cell? ((a.add (i * n)).add j) = (ns[j]?).map (.int k) := by
        intro i hi
        obtain ⟨cs', h1, h2⟩ := hel i (by omega)
        obtain ⟨ns, rfl, hl, hw⟩ := ih n' cs' _ h2
        rw [hc] at h1
        refine ⟨ns, hl, hw, ?_⟩
        intro j hj
        have := (World.cells?_some h1).2.2 j hj
        rw [this]
        simp
      obtain ⟨f, hf⟩ := choose_lt each
      obtain ⟨ab, ao, asp⟩ := a
      have e0 : w.cell? ⟨ab, ao, asp⟩ = ((f 0)[0]?).map (.int k) := by
        have := (hf 0 h0).2.2 0 hn
        simpa [Addr.add] using this
      have hl0 := (hf 0 h0).1
      have e1 : (f 0)[0]? = some ((f 0)[0]'(by omega)) := List.getElem?_eq_getElem _
      rw [e1] at e0
      obtain ⟨cur, T, fz, hb, hsp, _⟩ := cell_block e0
      simp only at hb hsp
      subst hsp
      have hlt : ab < w.heap.size := (Array.getElem?_eq_some_iff.1 hb).1
      have hcell : ∀ i j, i < len → j < n → cur[ao + i * n + j]? = ((f i)[j]?).map (.int k) := by
        intro i j hi hj
        have := (hf i hi).2.2 j hj
        rw [addr_add, addr_add, cell_at hb] at this
        exact this
      have hxl : (els k ((List.range len).map f)).length = len := by simp [els]
      refine ⟨(List.range len).map f, ?_, ?_, by simp; omega⟩
      · have := RepA.sl (m := []) (w := w) (F := fun b => b < w.heap.size) n (els k ((List.range len).map f)) ab ao cap cur T fz (fun i j => ((f i)[j]?).elim undef (.int k)) hlt hb (by rw [hxl]; exact hlc) hmax
          (by
            intro e he
            simp [els] at he
            obtain ⟨i, hi, rfl⟩ := he
            simpa using (hf i hi).1)
          (by
            intro e he d hd
            simp [els] at he
            obtain ⟨i, hi, rfl⟩ := he
            simp at hd
            obtain ⟨z, hz, rfl⟩ := hd
            rfl)
          (by
            intro i j hi hj
            rw [hxl] at hi
            rw [hcell i j hi hj]
            have : j < (f i).length := by rw [(hf i hi).1]; exact hj
            simp [List.getElem?_eq_getElem this])
          (by
            intro i j e d h1 h2
            have hi : i < len := by rw [← hxl]; exact lt_of_some h1
            have e' : (els k ((List.range len).map f))[i]? = some ((f i).map fun z => AV.v (.int k z)) := by
              simp only [els, List.getElem?_map, List.getElem?_range hi, Option.map_some]
            rw [e'] at h1
            cases h1
            simp at h2
            obtain ⟨z, hz, rfl⟩ := h2
            simp only [hz]
            exact .v _)
        rw [hxl] at this
        exact this
      · intro e he
        simp at he
        obtain ⟨i, hi, rfl⟩ := he
        exact ⟨(hf i hi).1, (hf i hi).2.1⟩

theorem trod_int_any {t : TypeId} {k : IntKind} {fuel : Nat} {cs : List Value} {x : DataW H × List MemPlace} (ht : P.underlying t = some (.int k)) (h : DataW.trod enc P w base spare held fuel t cs = some x) :
    ∃ n, cs = [.int k n] ∧ (Lit.int k n).wf = true := by
  obtain ⟨n, h1, _, h2⟩ := DataW.trod_int ht h
  exact ⟨n, h1, h2⟩

theorem fields_rep {g : TypeId → Option (List CS)} {fuel : Nat} {cs : List Value}
    (ih : ∀ (t : TypeId) (l : List CS) (cs : List Value) (x : DataW H × List MemPlace), g t = some l → DataW.trod enc P w base spare held fuel t cs = some x → CellsOK w l cs) :
    ∀ (fs : List Field) (off : Nat) (l : List CS) (xs : List (DataW H × List MemPlace)), shpF g P.cellsOf fs off = some l →
      fs.mapM (fun f => DataW.trod enc P w base spare held fuel f.type ((cs.drop f.offset).take (P.cellsOf f.type))) = some xs → CellsOK w l ((cs.drop off).take l.length)
  | [], off, l, xs, h, _ => by simp [shpF] at h; subst h; simp; trivial
  | f :: fs, off, l, xs, h, hm => by
    simp only [shpF] at h
    cases hg : g f.type with
    | none => simp [hg] at h
    | some l1 =>
      rw [hg] at h
      simp only at h
      split at h
      · rename_i hc
        cases hr : shpF g P.cellsOf fs (off + l1.length) with
        | none => simp [hr] at h
        | some r =>
          simp [hr] at h
          subst h
          simp only [List.mapM_cons] at hm
          cases hx : DataW.trod enc P w base spare held fuel f.type ((cs.drop f.offset).take (P.cellsOf f.type)) with
          | none => simp [hx] at hm
          | some x1 =>
            cases hrest : fs.mapM (fun f => DataW.trod enc P w base spare held fuel f.type ((cs.drop f.offset).take (P.cellsOf f.type))) with
            | none => simp [hx, hrest] at hm
            | some xs1 =>
              have h1 := ih f.type l1 _ x1 hg hx
              rw [hc.1, hc.2] at h1
              have h2 := fields_rep ih fs (off + l1.length) r xs1 hr hrest
              have := h1.append h2
              have hl1 : ((cs.drop off).take l1.length).length = l1.length := h1.length
              have e : (cs.drop off).take (l1 ++ r).length = (cs.drop off).take l1.length ++ (cs.drop (off + l1.length)).take r.length := by
                rw [List.length_append, List.take_add, List.drop_drop]
              rw [e]
              exact this
      · cases h

theorem trod_shp : ∀ (d fuel : Nat) (t : TypeId) (l : List CS) (cs : List Value) (x : DataW H × List MemPlace), shp P d t = some l → DataW.trod enc P w base spare held fuel t cs = some x → CellsOK w l cs
  | 0, fuel, t, l, cs, x, h, _ => by simp [shp] at h
  | d + 1, fuel, t, l, cs, x, h, hx => by
    simp only [shp] at h
    split at h
    · rename_i k hu
      cases h
      obtain ⟨n, rfl, hw⟩ := trod_int_any hu hx
      exact ⟨⟨n, rfl, hw⟩, trivial⟩
    · rename_i hu
      cases h
      obtain ⟨s, rfl, _, hs⟩ := DataW.trod_string hu hx
      exact ⟨⟨s, rfl, hs⟩, trivial⟩
    · rename_i e hu
      split at h
      · rename_i k l1 he
        split at h
        · rename_i hc
          cases h
          obtain ⟨c, rfl, hc'⟩ := slice_rep (k := k) (n := l1.length + 1) hu (by omega) hc.2 (fun fuel cs x hx => by
            have := trod_shp d fuel e _ cs x he hx
            obtain ⟨ns, h1, h2, h3⟩ := this.ints (k := k) (by simp [allK, hc.1])
            exact ⟨ns, h1, by simpa using h2, h3⟩) hx
          exact ⟨hc', trivial⟩
        · cases h
      · cases h
    · rename_i fs hu
      cases hF : shpF (shp P d) P.cellsOf fs.toList 0 with
      | none => simp [hF] at h
      | some l1 =>
        rw [hF] at h
        simp only at h
        split at h
        · rename_i hc
          cases h
          cases fuel with
          | zero => simp [DataW.trod] at hx
          | succ fuel =>
            unfold DataW.trod at hx
            rw [hu] at hx
            have key : cs.length = P.cellsOf t ∧ ∃ xs, fs.toList.mapM (fun f => DataW.trod enc P w base spare held fuel f.type ((cs.drop f.offset).take (P.cellsOf f.type))) = some xs := by
              split at hx <;> simp_all
              exact ⟨_, hx.2.choose_spec.1⟩
            obtain ⟨h1, xs, h2⟩ := key
            have := fields_rep (fun t l cs x h1 h2 => trod_shp d fuel t l cs x h1 h2) _ 0 _ xs hF h2
            rw [List.drop_zero, List.take_of_length_le (by omega)] at this
            exact this
        · cases h
    · cases h

end
end Eng
end Go.Proofs.Ytgcmahhejblpkaa
