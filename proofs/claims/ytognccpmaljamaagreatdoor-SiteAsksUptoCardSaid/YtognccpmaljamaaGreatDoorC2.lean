/- SiteAsks answers true for every input whose arguments hold together at most 1048576 values and letters, and leaves its arguments as they were; the listed package-level tables hold what the program's text lays. -/
import Derived.Test.YtognccpmaljamaaGreatDoorB1
import Derived.Test.YtognccpmaljamaaGreatDoorRows
import Derived.ProofKit
import Derived.OpenShut
import Derived.SliceStrings
import Derived.Test.YtognccpmaljamaaGreatDoorC1
import Derived.Test.YtognccpmaljamaaGreatDoorCards
import Derived.Test.YtognccpmaljamaaGreatDoorTie
import Derived.WalkKit
import Derived.Deep.DeepHandedRow
import Derived.Lib.LaidTab
import Derived.Stop.LaidErr
import Derived.SevenTiedAt
set_option linter.unusedVariables false
set_option linter.unusedSimpArgs false
set_option linter.unusedSectionVars false
set_option linter.unnecessarySimpa false
set_option linter.constructorNameAsVariable false
set_option maxRecDepth 100000
/- What an argument that reads av data is, cell by cell. -/
namespace Go.Proofs.YtognccpmaljamaaGreatDoor.Sa
open Go Go.ChangeShapes Go.WideShapes

/-! ### bulk -/
theorem bulk_part {H : Type} {d : DataW H} : ∀ {l : List (DataW H)}, d ∈ l → YtognccpmaljamaaGreatDoor.Rows.uptoBulk d ≤ YtognccpmaljamaaGreatDoor.Rows.uptoBulkAll l
  | x :: r, h => by
    simp only [YtognccpmaljamaaGreatDoor.Rows.uptoBulkAll]
    rcases List.mem_cons.1 h with rfl | h
    · omega
    · have := bulk_part h; omega
theorem bulk_len {H : Type} : ∀ l : List (DataW H), l.length ≤ YtognccpmaljamaaGreatDoor.Rows.uptoBulkAll l
  | [] => by simp [YtognccpmaljamaaGreatDoor.Rows.uptoBulkAll]
  | x :: r => by
    have := bulk_len r
    have h1 : 1 ≤ YtognccpmaljamaaGreatDoor.Rows.uptoBulk x := by
      cases x with
      | lit l => cases l <;> simp [YtognccpmaljamaaGreatDoor.Rows.uptoBulk]
      | nil => simp [YtognccpmaljamaaGreatDoor.Rows.uptoBulk]
      | ptr d => simp [YtognccpmaljamaaGreatDoor.Rows.uptoBulk]
      | slice elems spare => simp [YtognccpmaljamaaGreatDoor.Rows.uptoBulk]
      | agg parts => simp [YtognccpmaljamaaGreatDoor.Rows.uptoBulk]
      | iface t d => simp [YtognccpmaljamaaGreatDoor.Rows.uptoBulk]
      | map entries => simp [YtognccpmaljamaaGreatDoor.Rows.uptoBulk]
      | held h => simp [YtognccpmaljamaaGreatDoor.Rows.uptoBulk]
    simp only [YtognccpmaljamaaGreatDoor.Rows.uptoBulkAll, List.length_cons]; omega

/-! ### a type's cells -/
inductive LK where
  | b | i (k : IntKind) | s | ss
  deriving DecidableEq

noncomputable def fieldsL (P : Program) (g : TypeId → Option (List LK)) : Nat → List Field → Option (List LK)
  | _, [] => some []
  | off, f :: fs => match g f.type with
    | some l => match decide (f.offset = off ∧ P.cellsOf f.type = l.length) with
      | true => (fieldsL P g (off + l.length) fs).map (l ++ ·)
      | false => none
    | none => none

noncomputable def leaves (P : Program) : Nat → TypeId → Option (List LK)
  | 0, _ => none
  | n + 1, t => match P.underlying t with
    | some .bool => some [.b]
    | some (.int k) => some [.i k]
    | some .string => some [.s]
    | some (.slice e) => match P.underlying e with
      | some .string => match decide (P.cellsOf e = 1) with
        | true => some [.ss]
        | false => none
      | _ => none
    | some (.struct fs) => match fieldsL P (leaves P n) 0 fs.toList with
      | some L => match decide (P.cellsOf t = L.length) with
        | true => some L
        | false => none
      | none => none
    | some (.array m e) => match leaves P n e with
      | some l => match decide (P.cellsOf e = l.length ∧ P.cellsOf t = m * l.length) with
        | true => some (List.replicate m l).flatten
        | false => none
      | none => none
    | _ => none

noncomputable def LeafOK (W : World) (N : Nat) : LK → Value → AVal → Prop
  | .b, v, a => ∃ b, v = .bool b ∧ a = .bool b
  | .i k, v, a => ∃ n, v = .int k n ∧ a = .int k n ∧ (Lit.int k n).wf = true
  | .s, v, a => ∃ s : List UInt8, v = strV s ∧ a = .str s ∧ s.length ≤ N
  | .ss, v, a => ∃ (l : List (List UInt8)) (base : Option Addr) (cap : Nat), v = .slice base l.length cap ∧ l.length ≤ cap ∧ a = .strs false l ∧ l.length ≤ N ∧ (∀ s ∈ l, s.length ≤ N) ∧
      (l = [] ∨ ∃ g o, base = some ⟨g, o, none⟩ ∧ ∀ (i : Nat) s, l[i]? = some s → W.cell? ⟨g, o + i, none⟩ = some (strV s))

noncomputable def Leafs (W : World) (N : Nat) : List LK → List Value → List AVal → Prop
  | [], [], [] => True
  | k :: L, v :: cs, a :: av => LeafOK W N k v a ∧ Leafs W N L cs av
  | _, _, _ => False

theorem Leafs.append {W : World} {N : Nat} : ∀ {L : List LK} {cs : List Value} {av : List AVal} {L' : List LK} {cs' : List Value} {av' : List AVal}, Leafs W N L cs av → Leafs W N L' cs' av' → Leafs W N (L ++ L') (cs ++ cs') (av ++ av')
  | [], [], [], _, _, _, _, h => h
  | _ :: _, _ :: _, _ :: _, _, _, _, h, h' => ⟨h.1, Leafs.append h.2 h'⟩
  | [], _ :: _, _, _, _, _, h, _ => by simp [Leafs] at h
  | [], [], _ :: _, _, _, _, h, _ => by simp [Leafs] at h
  | _ :: _, [], _, _, _, _, h, _ => by simp [Leafs] at h
  | _ :: _, _ :: _, [], _, _, _, h, _ => by simp [Leafs] at h

section
variable {H : Type} {enc : TypeId × Value → H} {P : Program} {W : World} {base : Nat} {sp : Nat → Bool} {hd : Bool} {N : Nat}

theorem leafs_fields {g : TypeId → Option (List LK)} {m : Nat} {cs : List Value}
    (ih : ∀ t l cs' y, g t = some l → DataW.trod enc P W base sp hd m t cs' = some y → YtognccpmaljamaaGreatDoor.Rows.uptoBulk y.1 ≤ N → ∃ av, Leafs W N l cs' av) :
    ∀ (fs : List Field) (off : Nat) (L : List LK), fieldsL P g off fs = some L → (∀ f ∈ fs, ∃ y, DataW.trod enc P W base sp hd m f.type ((cs.drop f.offset).take (P.cellsOf f.type)) = some y ∧ YtognccpmaljamaaGreatDoor.Rows.uptoBulk y.1 ≤ N) →
    ∃ av, Leafs W N L ((cs.drop off).take L.length) av
  | [], off, L, h, _ => by
    simp only [fieldsL, Option.some.injEq] at h
    subst h
    exact ⟨[], by simp [Leafs]⟩
  | f :: fs, off, L, h, hf => by
    unfold fieldsL at h
    cases hg : g f.type with
    | none => simp [hg] at h
    | some l =>
      simp only [hg] at h
      split at h
      · rename_i hd'
        have hd' := of_decide_eq_true hd'
        rw [Option.map_eq_some_iff] at h
        obtain ⟨L', hL', rfl⟩ := h
        obtain ⟨y, hy, hb⟩ := hf f (List.mem_cons_self ..)
        obtain ⟨av, h1⟩ := ih _ l _ y hg hy hb
        obtain ⟨av', h2⟩ := leafs_fields ih fs _ L' hL' (fun f' h' => hf f' (List.mem_cons_of_mem _ h'))
        refine ⟨av ++ av', ?_⟩
        rw [List.length_append, List.take_add, List.drop_drop]
        rw [hd'.1, hd'.2] at h1
        exact Leafs.append h1 h2
      · cases h

theorem leafs_array {l : List LK} {m : Nat} {c : Nat} {e : TypeId} {cs : List Value} (hc : c = l.length)
    (ih : ∀ cs' y, DataW.trod enc P W base sp hd m e cs' = some y → YtognccpmaljamaaGreatDoor.Rows.uptoBulk y.1 ≤ N → ∃ av, Leafs W N l cs' av) :
    ∀ (n i0 : Nat), (∀ i, i0 ≤ i → i < i0 + n → ∃ y, DataW.trod enc P W base sp hd m e ((cs.drop (i * c)).take c) = some y ∧ YtognccpmaljamaaGreatDoor.Rows.uptoBulk y.1 ≤ N) →
    ∃ av, Leafs W N (List.replicate n l).flatten ((cs.drop (i0 * c)).take (n * c)) av
  | 0, i0, _ => ⟨[], by simp [Leafs]⟩
  | n + 1, i0, h => by
    obtain ⟨y, hy, hb⟩ := h i0 (Nat.le_refl _) (by omega)
    obtain ⟨av, h1⟩ := ih _ y hy hb
    obtain ⟨av', h2⟩ := leafs_array hc ih n (i0 + 1) (fun i ha hb => h i (by omega) (by omega))
    refine ⟨av ++ av', ?_⟩
    rw [List.replicate_succ, List.flatten_cons, show (n + 1) * c = c + n * c by rw [Nat.succ_mul]; omega, List.take_add, List.drop_drop, show i0 * c + c = (i0 + 1) * c by rw [Nat.succ_mul]]
    exact Leafs.append h1 h2

theorem leafs_trod : ∀ (n : Nat) (t : TypeId) (L : List LK) (fuel : Nat) (cs : List Value) (y : DataW H × List MemPlace), leaves P n t = some L → DataW.trod enc P W base sp hd fuel t cs = some y → YtognccpmaljamaaGreatDoor.Rows.uptoBulk y.1 ≤ N → ∃ av, Leafs W N L cs av
  | 0, t, L, fuel, cs, y, hl, _, _ => by cases hl
  | n + 1, t, L, fuel, cs, y, hl, ht, hb => by
    unfold leaves at hl
    split at hl
    · rename_i hu
      cases hl
      obtain ⟨b, rfl, rfl⟩ := DataW.trod_bool hu ht
      exact ⟨[.bool b], ⟨b, rfl, rfl⟩, trivial⟩
    · rename_i k hu
      cases hl
      obtain ⟨x, rfl, rfl, hw⟩ := DataW.trod_int hu ht
      exact ⟨[.int k x], ⟨x, rfl, rfl, hw⟩, trivial⟩
    · rename_i hu
      cases hl
      obtain ⟨s, rfl, rfl, hw⟩ := DataW.trod_string hu ht
      refine ⟨[.str s.data.toList], ⟨s.data.toList, rfl, rfl, ?_⟩, trivial⟩
      simp only [YtognccpmaljamaaGreatDoor.Rows.uptoBulk] at hb
      omega
    · rename_i e hu
      split at hl
      · rename_i he
        split at hl
        · rename_i hc
          cases hl
          have hc := of_decide_eq_true hc
          rcases open_strings hu he hc ht with ⟨rfl, rfl⟩ | ⟨a, len, cap, ss, rfl, _, hlc, _, hlen, rfl, hcell, _⟩
          · exact ⟨[.strs false []], ⟨[], none, 0, rfl, Nat.le_refl _, rfl, Nat.zero_le _, fun s h => (by cases h), .inl rfl⟩, trivial⟩
          · simp only [YtognccpmaljamaaGreatDoor.Rows.uptoBulk] at hb
            have hle : len ≤ ss.length := by rw [hlen]; split <;> omega
            have hl1 : ((ss.take len).map fun s => s.data.toList).length = len := by simp; omega
            have hb1 : YtognccpmaljamaaGreatDoor.Rows.uptoBulkAll (strs (H := H) (ss.take len)) ≤ N := by omega
            refine ⟨[.strs false ((ss.take len).map fun s => s.data.toList)], ⟨(ss.take len).map fun s => s.data.toList, some a, cap, by rw [hl1], by rw [hl1]; exact hlc, rfl, ?_, fun s hs => ?_, ?_⟩, trivial⟩
            · have := bulk_len (strs (H := H) (ss.take len))
              rw [show (strs (H := H) (ss.take len)).length = ((ss.take len).map fun s => s.data.toList).length by simp [strs]] at this
              omega
            · obtain ⟨x, hx, rfl⟩ := List.mem_map.1 hs
              have := bulk_part (H := H) (d := .lit (.string x.data.toList)) (l := strs (ss.take len)) (List.mem_map.2 ⟨x, hx, rfl⟩)
              simp only [YtognccpmaljamaaGreatDoor.Rows.uptoBulk] at this
              omega
            · by_cases h0 : len = 0
              · left; rw [h0]; simp
              · right
                obtain ⟨g, o, spot⟩ := a
                have hat : ∀ (i : Nat) x, (ss.take len)[i]? = some x → W.cell? ((⟨g, o, spot⟩ : Addr).add i) = some (.string x) := fun i x hx => by
                  rw [List.getElem?_take] at hx
                  split at hx
                  · have hi := (List.getElem?_eq_some_iff.1 hx).1
                    have := hcell i hi
                    simpa [List.getD, hx] using this
                  · cases hx
                have hs0 : spot = none := by
                  have h1 : ∃ x, (ss.take len)[0]? = some x := ⟨_, List.getElem?_eq_getElem (by simp; omega)⟩
                  obtain ⟨x, hx⟩ := h1
                  have := hat 0 x hx
                  simp only [Addr.add, if_pos, World.cell?] at this
                  split at this
                  · split at this
                    · cases this
                    · rename_i hsp; simpa using hsp
                  · cases this
                subst hs0
                refine ⟨g, o, rfl, fun i s hs => ?_⟩
                rw [List.getElem?_map, Option.map_eq_some_iff] at hs
                obtain ⟨x, hx, rfl⟩ := hs
                have := hat i x hx
                unfold Addr.add at this
                split at this
                · rename_i hi; subst hi; exact this
                · exact this
        · cases hl
      · cases hl
    · rename_i fs hu
      split at hl
      · rename_i L' hL'
        split at hl
        · rename_i hc
          cases hl
          have hc := of_decide_eq_true hc
          obtain ⟨xs, m, rfl, rfl, hlen, hxl, hf⟩ := DataW.trod_struct hu ht
          simp only [YtognccpmaljamaaGreatDoor.Rows.uptoBulk] at hb
          obtain ⟨av, h⟩ := leafs_fields (m := m) (cs := cs) (N := N) (fun t l cs' y hg hy hb => leafs_trod n t l m cs' y hg hy hb) fs.toList 0 L hL' (fun f hfm => by
            obtain ⟨i, hi⟩ := List.getElem?_of_mem hfm
            rw [Array.getElem?_toList] at hi
            have := hf i f hi
            have hix : i < xs.length := by rw [hxl]; exact (Array.getElem?_eq_some_iff.1 hi).1
            rw [List.getElem?_eq_getElem hix] at this
            refine ⟨_, this, ?_⟩
            have := bulk_part (H := H) (d := xs[i].1) (l := xs.map (·.1)) (List.mem_map.2 ⟨_, List.getElem_mem hix, rfl⟩)
            omega)
          rw [List.drop_zero, List.take_of_length_le (by omega)] at h
          exact ⟨av, h⟩
        · cases hl
      · cases hl
    · rename_i k e hu
      split at hl
      · rename_i l hle
        split at hl
        · rename_i hc
          cases hl
          have hc := of_decide_eq_true hc
          obtain ⟨xs, m, rfl, rfl, hlen, hxl, hf⟩ := DataW.trod_array hu ht
          simp only [YtognccpmaljamaaGreatDoor.Rows.uptoBulk] at hb
          obtain ⟨av, h⟩ := leafs_array (enc := enc) (P := P) (base := base) (sp := sp) (hd := hd) (W := W) (m := m) (cs := cs) (N := N) (c := P.cellsOf e) (e := e) hc.1 (fun cs' y hy hb => leafs_trod n e l m cs' y hle hy hb) k 0 (fun i _ hi => by
            have := hf i (by omega)
            have hix : i < xs.length := by omega
            rw [List.getElem?_eq_getElem hix] at this
            refine ⟨_, this, ?_⟩
            have := bulk_part (H := H) (d := xs[i].1) (l := xs.map (·.1)) (List.mem_map.2 ⟨_, List.getElem_mem hix, rfl⟩)
            omega)
          rw [Nat.zero_mul, List.drop_zero, List.take_of_length_le (by rw [hlen, hc.2, hc.1]; exact Nat.le_refl _)] at h
          exact ⟨av, h⟩
        · cases hl
      · cases hl
    · cases hl

end

end Go.Proofs.YtognccpmaljamaaGreatDoor.Sa

/- The row of SiteAsks. -/
namespace Go.Proofs.YtognccpmaljamaaGreatDoor.Sa
open Go Go.ChangeShapes Go.WideShapes Go.ChangeAt Go.RowKit

/-! ### the world as memory -/
noncomputable def memOf (W : World) : Mem := fun g o => match W.cell? ⟨g, o, none⟩ with
  | some c => (match c.oneCell' with | true => some c | false => none)
  | none => none
theorem memOf_of {W : World} {g o : Nat} {c : Value} (h : W.cell? ⟨g, o, none⟩ = some c) (h1 : c.oneCell' = true) : memOf W g o = some c := by
  unfold memOf
  rw [h]
  simp only [h1]
theorem of_memOf {W : World} {g o : Nat} {c : Value} (h : memOf W g o = some c) : W.cell? ⟨g, o, none⟩ = some c ∧ c.oneCell' = true := by
  unfold memOf at h
  split at h
  · rename_i c' hc
    split at h
    · rename_i h1
      cases h
      exact ⟨hc, h1⟩
    · cases h
  · cases h

theorem start_RS {W : World} (hw : GlobMem.W W) (hm : MLe GlobMem.M (memOf W)) : RS (bs0 (fun _ => none) W (memOf W) []) ⟨[], []⟩ #[] W (fun _ => none) [] (memOf W) where
  wi := ⟨fun g o c h => of_memOf h, fun g ℓ h => (by cases h), fun g ℓ h => (by cases h)⟩
  fr := Fr.refl _ _
  mle := MLe.refl _
  glob := ⟨hm, hw, fun g o c _ hF => hF rfl⟩
  ext := fun b g h => h
  own0 := fun g ℓ h => (by cases h)
  mnew := fun g o c h => .inl h
  len := rfl
  env := fun t a v h => by simp at h
  hlen := rfl
  heap := fun b cs h => by simp at h

theorem intCells_cells : ∀ {cs : List AVal}, intCells cs = true → ∀ (o : Nat) k n, cs[o]? = some (.int k n) → (cellsOfA cs)[o]? = some (.int k n)
  | [], _, o, k, n, h => by simp at h
  | .int k' n' :: cs, hc, o, k, n, h => by
    cases o with
    | zero =>
      simp only [List.getElem?_cons_zero, Option.some.injEq, AVal.int.injEq] at h
      obtain ⟨rfl, rfl⟩ := h
      rfl
    | succ o =>
      have := intCells_cells (cs := cs) hc o k n (by simpa using h)
      simpa [cellsOfA] using this

theorem glob_mem {W : World} (hw : GlobMem.W W) (hi : ∀ g cs, findG g glt = some cs → intCells cs = true) : MLe GlobMem.M (memOf W) := by
  intro g o c hc
  have hw' : globW glt W := hw
  obtain ⟨cs, e, fz, h1, h2⟩ := hw' g o c hc
  have hc' : globM glt g o = some c := hc
  unfold globM at hc'
  rw [h1] at hc'
  simp only at hc'
  split at hc'
  · rename_i k n hcs
    cases hc'
    have := intCells_cells (hi g cs h1) o k n hcs
    refine memOf_of ?_ rfl
    rw [cell_at h2, List.getElem?_toArray, this]
  · cases hc'

theorem leafs_cons {W : World} {N : Nat} {k : LK} {L : List LK} {cs : List Value} {av : List AVal} (h : Leafs W N (k :: L) cs av) : ∃ v cs' a av', cs = v :: cs' ∧ av = a :: av' ∧ LeafOK W N k v a ∧ Leafs W N L cs' av' := by
  match cs, av, h with
  | v :: cs, a :: av, h => exact ⟨v, cs, a, av, rfl, rfl, h.1, h.2⟩
theorem leafs_nil {W : World} {N : Nat} {cs : List Value} {av : List AVal} (h : Leafs W N [] cs av) : cs = [] ∧ av = [] := by
  match cs, av, h with
  | [], [], _ => exact ⟨rfl, rfl⟩

theorem leaf_hold {W : World} {N : Nat} {k : LK} {v : Value} {a : AVal} (h : LeafOK W N k v a) (ℓ : List Nat → Loc) : Hold (fun _ => none) W [] (memOf W) ℓ a v ∧ v.oneCell' = true := by
  cases k with
  | b => obtain ⟨b, rfl, rfl⟩ := h; exact ⟨by simp [Hold, AVal.uniq, V], rfl⟩
  | i k => obtain ⟨n, rfl, rfl, _⟩ := h; exact ⟨by simp [Hold, AVal.uniq, V], rfl⟩
  | s => obtain ⟨s, rfl, rfl, _⟩ := h; exact ⟨by simp [Hold, AVal.uniq, V], rfl⟩
  | ss =>
    obtain ⟨l, base, cap, rfl, hc, rfl, _, _, hcl⟩ := h
    refine ⟨?_, rfl⟩
    simp only [Hold, AVal.uniq, V]
    refine ⟨trivial, base, cap, rfl, hc, ?_⟩
    rcases hcl with rfl | ⟨g, o, hb, hcell⟩
    · left; rfl
    · right
      refine ⟨g, o, hb, fun i p hp => ?_⟩
      rw [List.getElem?_map, Option.map_eq_some_iff] at hp
      obtain ⟨x, hx, rfl⟩ := hp
      exact ⟨strV x, memOf_of (hcell i x hx) rfl, rfl⟩

theorem leafs_hold {W : World} {N : Nat} : ∀ {L : List LK} {cs : List Value} {av : List AVal}, Leafs W N L cs av → ∀ (ℓ : List Nat → Loc) (i : Nat), HoldL (fun _ => none) W [] (memOf W) ℓ i av cs ∧ ∀ c ∈ cs, c.oneCell' = true
  | [], cs, av, h, ℓ, i => by
    obtain ⟨rfl, rfl⟩ := leafs_nil h
    exact ⟨by simp only [HoldL], fun c hc => (by cases hc)⟩
  | k :: L, cs, av, h, ℓ, i => by
    obtain ⟨v, cs, a, av, rfl, rfl, h1, h2⟩ := leafs_cons h
    have h3 := leaf_hold h1 (fun p => ℓ (i :: p))
    have h4 := leafs_hold h2 ℓ (i + 1)
    refine ⟨by simp only [HoldL]; exact ⟨h3.1, h4.1⟩, fun c hc => ?_⟩
    rcases List.mem_cons.1 hc with rfl | hc
    · exact h3.2
    · exact h4.2 c hc

/-! ### what is read -/
theorem wf_range {k : IntKind} {n : Int} (h : (Lit.int k n).wf = true) : k.min ≤ n ∧ n ≤ k.max := by
  simpa [Lit.wf] using h
theorem wf_i64 {n : Int} (h : (Lit.int .i64 n).wf = true) : inI64 n = true := by
  have := wf_range h
  unfold inI64
  simp only [Bool.and_eq_true, decide_eq_true_eq]
  simpa [IntKind.min, IntKind.max, IntKind.signed, IntKind.bits] using this
theorem wf_u32 {n : Int} (h : (Lit.int .u32 n).wf = true) : inU32 n = true := by
  have := wf_range h
  unfold inU32
  simp only [Bool.and_eq_true, decide_eq_true_eq]
  simp [IntKind.min, IntKind.max, IntKind.signed, IntKind.bits] at this
  omega
theorem wf_u16 {n : Int} (h : (Lit.int .u16 n).wf = true) : isU16 n = true := by
  have := wf_range h
  unfold isU16
  simp only [Bool.and_eq_true, decide_eq_true_eq]
  simp [IntKind.min, IntKind.max, IntKind.signed, IntKind.bits] at this
  omega

def urlL : List LK := [.s, .s, .s, .b, .i .i64, .s, .i .u32, .i .u16, .i .u16, .i .u16, .i .u16, .i .u16, .i .u16, .i .u16, .i .u16, .i .i64, .b, .s, .ss, .b, .s, .b, .s]
theorem leaves29 : leaves Tryz.prog 6 29 = some urlL := by kernel_rfl
theorem leaves27 : leaves Tryz.prog 6 27 = some [.ss] := by kernel_rfl
theorem leaves9 : leaves Tryz.prog 6 9 = some [.s] := by kernel_rfl

theorem url_of {W : World} {N : Nat} (hN : N ≤ 1048576) {cs : List Value} {av : List AVal} (h : Leafs W N urlL cs av) : ∃ u : URLV, av = urlC u ∧ uG u = true := by
  unfold urlL at h
  obtain ⟨v0, c0, a0, b0, rfl, rfl, l0, t0⟩ := leafs_cons h
  obtain ⟨sc, _, rfl, g0⟩ := l0
  obtain ⟨v1, c1, a1, b1, rfl, rfl, l1, t1⟩ := leafs_cons t0
  obtain ⟨us, _, rfl, g1⟩ := l1
  obtain ⟨v2, c2, a2, b2, rfl, rfl, l2, t2⟩ := leafs_cons t1
  obtain ⟨pw, _, rfl, g2⟩ := l2
  obtain ⟨v3, c3, a3, b3, rfl, rfl, l3, t3⟩ := leafs_cons t2
  obtain ⟨hh, _, rfl⟩ := l3
  obtain ⟨v4, c4, a4, b4, rfl, rfl, l4, t4⟩ := leafs_cons t3
  obtain ⟨hk, _, rfl, g4⟩ := l4
  obtain ⟨v5, c5, a5, b5, rfl, rfl, l5, t5⟩ := leafs_cons t4
  obtain ⟨hn, _, rfl, g5⟩ := l5
  obtain ⟨v6, c6, a6, b6, rfl, rfl, l6, t6⟩ := leafs_cons t5
  obtain ⟨hf0, _, rfl, g6⟩ := l6
  obtain ⟨v7, c7, a7, b7, rfl, rfl, l7, t7⟩ := leafs_cons t6
  obtain ⟨p0, _, rfl, g7⟩ := l7
  obtain ⟨v8, c8, a8, b8, rfl, rfl, l8, t8⟩ := leafs_cons t7
  obtain ⟨p1, _, rfl, g8⟩ := l8
  obtain ⟨v9, c9, a9, b9, rfl, rfl, l9, t9⟩ := leafs_cons t8
  obtain ⟨p2, _, rfl, g9⟩ := l9
  obtain ⟨v10, c10, a10, b10, rfl, rfl, l10, t10⟩ := leafs_cons t9
  obtain ⟨p3, _, rfl, g10⟩ := l10
  obtain ⟨v11, c11, a11, b11, rfl, rfl, l11, t11⟩ := leafs_cons t10
  obtain ⟨p4, _, rfl, g11⟩ := l11
  obtain ⟨v12, c12, a12, b12, rfl, rfl, l12, t12⟩ := leafs_cons t11
  obtain ⟨p5, _, rfl, g12⟩ := l12
  obtain ⟨v13, c13, a13, b13, rfl, rfl, l13, t13⟩ := leafs_cons t12
  obtain ⟨p6, _, rfl, g13⟩ := l13
  obtain ⟨v14, c14, a14, b14, rfl, rfl, l14, t14⟩ := leafs_cons t13
  obtain ⟨p7, _, rfl, g14⟩ := l14
  obtain ⟨v15, c15, a15, b15, rfl, rfl, l15, t15⟩ := leafs_cons t14
  obtain ⟨po, _, rfl, g15⟩ := l15
  obtain ⟨v16, c16, a16, b16, rfl, rfl, l16, t16⟩ := leafs_cons t15
  obtain ⟨dk, _, rfl⟩ := l16
  obtain ⟨v17, c17, a17, b17, rfl, rfl, l17, t17⟩ := leafs_cons t16
  obtain ⟨tx, _, rfl, g17⟩ := l17
  obtain ⟨v18, c18, a18, b18, rfl, rfl, l18, t18⟩ := leafs_cons t17
  obtain ⟨pa, _, _, _, _, rfl, _, _, _⟩ := l18
  obtain ⟨v19, c19, a19, b19, rfl, rfl, l19, t19⟩ := leafs_cons t18
  obtain ⟨hq, _, rfl⟩ := l19
  obtain ⟨v20, c20, a20, b20, rfl, rfl, l20, t20⟩ := leafs_cons t19
  obtain ⟨qu, _, rfl, g20⟩ := l20
  obtain ⟨v21, c21, a21, b21, rfl, rfl, l21, t21⟩ := leafs_cons t20
  obtain ⟨hf, _, rfl⟩ := l21
  obtain ⟨v22, c22, a22, b22, rfl, rfl, l22, t22⟩ := leafs_cons t21
  obtain ⟨fr, _, rfl, g22⟩ := l22
  obtain ⟨rfl, rfl⟩ := leafs_nil t22
  refine ⟨⟨sc, us, pw, hh, ⟨hk, hn, hf0, p0, p1, p2, p3, p4, p5, p6, p7⟩, po, dk, tx, pa, hq, qu, hf, fr⟩, rfl, ?_⟩
  unfold uG hostG six16
  simp only [Bool.and_eq_true]
  exact ⟨decide_eq_true (by rw [SML_eq]; show sc.length ≤ _; omega), wf_i64 g15, decide_eq_true (by rw [SML_eq]; show hn.length ≤ _; omega), wf_u32 g6, wf_u16 g7, wf_u16 g8, wf_u16 g9, wf_u16 g10, wf_u16 g11, wf_u16 g12, wf_u16 g13, wf_u16 g14⟩

end Go.Proofs.YtognccpmaljamaaGreatDoor.Sa

/- SiteAsks: the row and the card. -/
namespace Go.Proofs.YtognccpmaljamaaGreatDoor.Sa
open Go Go.ChangeShapes Go.WideShapes Go.ChangeAt Go.RowKit

theorem own : ownKnob Tryz.prog.godebug = none := by kernel_rfl
theorem laidOut : laidOutB Tryz.prog = true := by kernel_rfl

/-! ### the tables -/
theorem g32 : Tryz.prog.globalNamed "math/bits.deBruijn32tab" = some 2 := by kernel_rfl
theorem g64 : Tryz.prog.globalNamed "math/bits.deBruijn64tab" = some 3 := by kernel_rfl
theorem g10 : Tryz.prog.globalNamed "internal/strconv.uint64pow10" = some 1 := by kernel_rfl

theorem tab_block {w : World} {name : String} {k : IntKind} {zs : List Int} {g : Nat} (h : Lib.TabIs Tryz.prog w name k zs) (hg : Tryz.prog.globalNamed name = some g) : ∃ e fz, w.heap[g]? = some (.cells (zs.map fun z => Value.int k z).toArray e fz) := by
  unfold Lib.TabIs World.var? at h
  rw [hg] at h
  simp only [Option.bind_some] at h
  split at h
  · rename_i cs e fz hc
    cases h
    exact ⟨e, fz, hc⟩
  · cases h

theorem ty32 : (Tryz.prog.globals[2]?).map (·.type) = some 162 := by kernel_rfl
theorem ty64 : (Tryz.prog.globals[3]?).map (·.type) = some 163 := by kernel_rfl
theorem ty10 : (Tryz.prog.globals[1]?).map (·.type) = some 139 := by kernel_rfl
theorem c162 : Tryz.prog.cellsOf 162 = 32 := by kernel_rfl
theorem c163 : Tryz.prog.cellsOf 163 = 64 := by kernel_rfl
theorem c139 : Tryz.prog.cellsOf 139 = 20 := by kernel_rfl
theorem c5 : Tryz.prog.cellsOf 5 = 1 := by kernel_rfl
theorem c114 : Tryz.prog.cellsOf 114 = 1 := by kernel_rfl
def z32 : List Int := [0, 1, 28, 2, 29, 14, 24, 3, 30, 22, 20, 15, 25, 17, 4, 8, 31, 27, 13, 23, 21, 19, 16, 7, 26, 12, 18, 6, 11, 5, 10, 9]
def z64 : List Int := [0, 1, 56, 2, 57, 49, 28, 3, 61, 58, 42, 50, 38, 29, 17, 4, 62, 47, 59, 36, 45, 43, 51, 22, 53, 39, 33, 30, 24, 18, 12, 5, 63, 55, 48, 27, 60, 41, 37, 16, 46, 35, 44, 21, 52, 32, 23, 11, 54, 26, 40, 15, 34, 20, 31, 10, 25, 14, 19, 9, 13, 8, 7, 6]
def z10 : List Int := [1, 10, 100, 1000, 10000, 100000, 1000000, 10000000, 100000000, 1000000000, 10000000000, 100000000000, 1000000000000, 10000000000000, 100000000000000, 1000000000000000, 10000000000000000, 100000000000000000, 1000000000000000000, 10000000000000000000]

theorem lists_met {W : World} (h : laidMetH Tryz.prog YtognccpmaljamaaGreatDoor.Rows.siteAsksUptoRow.laid W) : laidMet Tryz.prog YtognccpmaljamaaGreatDoor.Rows.siteAsksUptoRow.laid W := h
theorem glob_three : ∀ g cs, findG g glt = some cs → (g = 2 ∧ cs = z32.map (.int .u8)) ∨ (g = 3 ∧ cs = z64.map (.int .u8)) ∨ (g = 1 ∧ cs = z10.map (.int .u64)) := by
  intro g cs h
  have e : glt = [(2, z32.map (.int .u8)), (3, z64.map (.int .u8)), (1, z10.map (.int .u64))] := by kernel_rfl
  rw [e] at h
  unfold findG at h
  split at h
  · rename_i h1
    cases h
    exact .inl ⟨by simpa using h1, rfl⟩
  · unfold findG at h
    split at h
    · rename_i h1
      cases h
      exact .inr (.inl ⟨by simpa using h1, rfl⟩)
    · unfold findG at h
      split at h
      · rename_i h1
        cases h
        exact .inr (.inr ⟨by simpa using h1, rfl⟩)
      · cases h
theorem cellsOfA_map (k : IntKind) : ∀ zs : List Int, cellsOfA (zs.map (.int k)) = zs.map fun z => Value.int k z
  | [] => rfl
  | z :: zs => by rw [List.map_cons, cellsOfA, cellsOfA_map k zs, List.map_cons]
theorem intCells_map (k : IntKind) : ∀ zs : List Int, intCells (zs.map (.int k)) = true
  | [] => rfl
  | z :: zs => by rw [List.map_cons, intCells, intCells_map k zs]

theorem tables {W : World} (h : laidMetH Tryz.prog YtognccpmaljamaaGreatDoor.Rows.siteAsksUptoRow.laid W) : GlobMem.W W := by
  have h' := lists_met h
  have t2 := tab_block (Lib.tabIs_of_head (k := .u8) (zs := z32) g32 ty32 Tryz.underlying162 Tryz.underlying5 c5 c162 h') g32
  have t3 := tab_block (Lib.tabIs_of_head (k := .u8) (zs := z64) g64 ty64 Tryz.underlying163 Tryz.underlying5 c5 c163 h'.tail) g64
  have t1 := tab_block (Lib.tabIs_of_head (k := .u64) (zs := z10) g10 ty10 Tryz.underlying139 Tryz.underlying114 c114 c139 h'.tail.tail) g10
  show globW glt W
  intro g o c hc
  have hc' : globM glt g o = some c := hc
  unfold globM at hc'
  split at hc'
  · rename_i cs hcs
    rcases glob_three g cs hcs with ⟨rfl, rfl⟩ | ⟨rfl, rfl⟩ | ⟨rfl, rfl⟩
    · obtain ⟨e, fz, ht⟩ := t2
      exact ⟨_, e, fz, hcs, by rw [cellsOfA_map]; exact ht⟩
    · obtain ⟨e, fz, ht⟩ := t3
      exact ⟨_, e, fz, hcs, by rw [cellsOfA_map]; exact ht⟩
    · obtain ⟨e, fz, ht⟩ := t1
      exact ⟨_, e, fz, hcs, by rw [cellsOfA_map]; exact ht⟩
  · cases hc'
theorem tables_mem {W : World} (h : GlobMem.W W) : MLe GlobMem.M (memOf W) := glob_mem h fun g cs hcs => by
  rcases glob_three g cs hcs with ⟨_, rfl⟩ | ⟨_, rfl⟩ | ⟨_, rfl⟩ <;> exact intCells_map _ _

/-! ### the contract -/
noncomputable def KT : AVal → List (List AVal) → Option Res := fun v h => match v with
  | .bool true => some (v, h)
  | _ => none

theorem below_of_RS {W w' : World} {s : S} {tm : Array Value} {Own : Owner} {ρ : List Nat} {M : Mem} (h : RS (bs0 (fun _ => none) W (memOf W) []) s tm w' Own ρ M) : Below W.heap.size W w' :=
  ⟨h.fr.os, h.fr.tape, h.fr.output, h.fr.size, fun k hk => h.fr.keep k hk (fun hF => hF rfl)⟩

theorem HoldL_cons {Own : Owner} {w : World} {ρ : List Nat} {M : Mem} {ℓ : List Nat → Loc} {i : Nat} {a : AVal} {v : Value} {as' : List AVal} {vs : List Value} (h1 : Hold Own w ρ M (fun p => ℓ (i :: p)) a v) (h2 : HoldL Own w ρ M ℓ (i + 1) as' vs) : HoldL Own w ρ M ℓ i (a :: as') (v :: vs) := by
  simp only [HoldL]; exact ⟨h1, h2⟩
theorem HoldL_nil {Own : Owner} {w : World} {ρ : List Nat} {M : Mem} {ℓ : List Nat → Loc} {i : Nat} : HoldL Own w ρ M ℓ i [] [] := by simp only [HoldL]

/-- A run that comes to true, from any world in which the arguments lie. -/
theorem runs_true {f : FuncId} {fn : Func} {ac : AC} {O : Oracle} (hO : OracleOK Tryz.prog O) (hf : Tryz.prog.funcs[f]? = some fn) (hnm : (fn.name == "runtime.NumGoroutine") = false) (hent : ∀ args w, (callFunc f args).run Tryz.prog w = .ok (.enter f args) w)
    {args : List AVal} {xs : List Value} {W : World} {n : Nat} (hn : ∀ K, funA cx O n ac fn args [] K = K (.bool true) []) (hw : GlobMem.W W) (hH : HoldL (fun _ => none) W [] (memOf W) (.fly 1) 0 args xs) :
    Calls Tryz.prog f xs.toArray W fun e w' => e = .returned (.bool true) ∧ Below W.heap.size W w' := by
  have H := fun_ok hT hE (fun O hO => dreg_ok hT hE mixed hO) hO n ac f fn hf hnm args [] KT (.bool true, []) (by rw [hn]; rfl)
  rcases H _ _ _ _ _ (start_RS hw (tables_mem hw)) hH with ⟨_, hc⟩ | ⟨u, w', hrun, _⟩
  · refine Calls.mono hc fun e w' he => ?_
    cases e with
    | returned u =>
      obtain ⟨v, h', Own', ρ', M', hv, hR, hHold⟩ := he
      have hvt : v = .bool true := by
        unfold KT at hv
        split at hv
        · rfl
        · cases hv
      subst hvt
      refine ⟨?_, below_of_RS hR⟩
      have : u = .bool true := by simpa [Hold, AVal.uniq, V] using hHold
      rw [this]
    | _ => exact he.elim
  · rw [hent] at hrun
    cases hrun

theorem bulk_args {H : Type} {ds : List (DataW H)} (hk : YtognccpmaljamaaGreatDoor.Rows.uptoSmall H ds = true) {d : DataW H} (hd : d ∈ ds) : YtognccpmaljamaaGreatDoor.Rows.uptoBulk d ≤ 1048576 := by
  have h1 := bulk_part hd
  unfold YtognccpmaljamaaGreatDoor.Rows.uptoSmall at hk
  exact Nat.le_trans h1 (of_decide_eq_true hk)

theorem okWide_agg {W : World} {base : Nat} {t : TypeId} {fs : Array Field} {v : Value} (hu : Tryz.prog.underlying t = some (.struct fs)) (h : Value.okWide Tryz.prog W .any base t v) : ∃ cs : Array Value, v = .agg cs := by
  unfold Value.okWide at h
  rw [hu] at h
  obtain ⟨cs, h, _⟩ := h
  exact ⟨cs, h⟩

theorem contract (H : Type) (enc : TypeId × Value → H) (W : World) (base : Nat) (args : Array Value) (ds gs : List (DataW H)) (before : List MemPlace)
    (hval : ∀ (j : Nat) t v, Tryz.f4.params[j]? = some t → args[j]? = some v → Value.okWide Tryz.prog W .any base t v)
    (hW : DataW.Whole enc Tryz.prog Tryz.f4.params.toList YtognccpmaljamaaGreatDoor.Rows.siteAsksSpec.vars false W args.toList ds gs before) (hL : laidMetH Tryz.prog YtognccpmaljamaaGreatDoor.Rows.siteAsksUptoRow.laid W)
    (hk : YtognccpmaljamaaGreatDoor.Rows.uptoSmall H (ds ++ gs) = true) :
    Calls Tryz.prog 4 args W fun e W' => ∃ v, e = .returned v ∧ YtognccpmaljamaaGreatDoor.Rows.siteAsksSpec.post enc Tryz.prog Tryz.f4 false true false false W args v W' := by
  have hW' := hW
  have hlt := hW.lt
  obtain ⟨p, q, hA0, hV, rfl, hfz, hnd⟩ := hW
  have hA : DataW.TrodAll enc Tryz.prog W 0 (fun _ => true) true Tryz.f4.params.toList args.toList ds p := hA0
  rw [Tryz.params4] at hA hval
  obtain ⟨v0, vs0, d0, ds0, p0, q0, hargs, rfl, rfl, h0, r0⟩ := trodAll_cons hA
  obtain ⟨v1, vs1, d1, ds1, p1, q1, rfl, rfl, rfl, h1, r1⟩ := trodAll_cons r0
  obtain ⟨v2, vs2, d2, ds2, p2, q2, rfl, rfl, rfl, h2, r2⟩ := trodAll_cons r1
  obtain ⟨v3, vs3, d3, ds3, p3, q3, rfl, rfl, rfl, h3, r3⟩ := trodAll_cons r2
  obtain ⟨rfl, rfl, rfl⟩ := trodAll_nil r3
  obtain rfl : args = #[v0, v1, v2, v3] := by cases args; simp_all
  obtain ⟨rfl, rfl⟩ := trodVars_none hV
  obtain ⟨cs0, rfl⟩ := okWide_agg Tryz.underlying29 (hval 0 29 v0 rfl rfl)
  obtain ⟨cs1, rfl⟩ := okWide_agg Tryz.underlying29 (hval 1 29 v1 rfl rfl)
  obtain ⟨a2, len2, cap2, rfl⟩ := okWide_slice Tryz.underlying27 (hval 2 27 v2 rfl rfl)
  obtain ⟨s3, rfl⟩ := okWide_string Tryz.underlying9 (hval 3 9 v3 rfl rfl)
  have k0 := bulk_args hk (d := d0) (by simp)
  have k1 := bulk_args hk (d := d1) (by simp)
  have k2 := bulk_args hk (d := d2) (by simp)
  have k3 := bulk_args hk (d := d3) (by simp)
  obtain ⟨f0, t0⟩ := id h0
  obtain ⟨f1, t1⟩ := id h1
  obtain ⟨f2, t2⟩ := id h2
  obtain ⟨f3, t3⟩ := id h3
  obtain ⟨a0, l0⟩ := leafs_trod 6 29 urlL f0 _ _ leaves29 t0 k0
  obtain ⟨a1, l1⟩ := leafs_trod 6 29 urlL f1 _ _ leaves29 t1 k1
  obtain ⟨a2', l2⟩ := leafs_trod 6 27 [.ss] f2 _ _ leaves27 t2 k2
  obtain ⟨a3, l3⟩ := leafs_trod 6 9 [.s] f3 _ _ leaves9 t3 k3
  obtain ⟨u, rfl, gu⟩ := url_of (Nat.le_refl _) l0
  obtain ⟨v, rfl, _⟩ := url_of (Nat.le_refl _) l1
  obtain ⟨y2, _, x2, _, e2, rfl, m2, n2⟩ := leafs_cons l2
  obtain ⟨rfl, rfl⟩ := leafs_nil n2
  obtain ⟨y3, _, x3, _, e3, rfl, m3, n3⟩ := leafs_cons l3
  obtain ⟨rfl, rfl⟩ := leafs_nil n3
  have e2' : Value.slice a2 len2 cap2 = y2 := (List.cons.inj (show [Value.slice a2 len2 cap2] = [y2] from e2)).1
  have e3' : Value.string s3 = y3 := (List.cons.inj (show [Value.string s3] = [y3] from e3)).1
  have hh0 := leafs_hold l0 (fun p => .fly 1 (0 :: p)) 0
  have hh1 := leafs_hold l1 (fun p => .fly 1 (1 :: p)) 0
  have hh2 := leaf_hold m2 (fun p => .fly 1 (2 :: p))
  have hh3 := leaf_hold m3 (fun p => .fly 1 (3 :: p))
  obtain ⟨sl, _, _, _, _, rfl, g1, g2, _⟩ := m2
  obtain ⟨s, _, rfl, g3⟩ := m3
  have hw := tables hL
  obtain ⟨n, hn⟩ := law4 u v sl s (by
    simp only [Bool.and_eq_true]
    refine ⟨gu, decide_eq_true (by rw [BIG_eq]; omega), ?_, decide_eq_true (by rw [BIG_eq]; omega)⟩
    unfold shorts
    rw [List.all_eq_true]
    intro x hx
    have := g2 x hx
    exact decide_eq_true (by rw [BIG_eq]; omega))
  have walk := runs_true (xs := [.agg cs0, .agg cs1, .slice a2 len2 cap2, .string s3]) hOT Tryz.func4 (by kernel_rfl) (enters_of Tryz.func4 (by kernel_rfl) rfl) hn hw
    (HoldL_cons (by simp only [Hold]; exact ⟨cs0.toList, by simp, hh0⟩) (HoldL_cons (by simp only [Hold]; exact ⟨cs1.toList, by simp, hh1⟩) (HoldL_cons (by rw [e2']; exact hh2.1) (HoldL_cons (by rw [e3']; exact hh3.1) HoldL_nil))))
  refine walk.mono fun e W' ⟨he, hb⟩ => ?_
  subst he
  have hl : ∀ (p' : List MemPlace), (∀ x ∈ p', x ∈ p0 ++ (p1 ++ (p2 ++ (p3 ++ [])))  ++ []) → ∀ x ∈ p', x.block < W.heap.size := fun p' hp x hx => hlt x (hp x hx)
  refine ⟨_, rfl, _, _, _, [], p0 ++ (p1 ++ (p2 ++ (p3 ++ []))), [], hW', ?_, ?_, ?_, hb.frame _, fun h => by cases h⟩
  · exact trodAll_cons_mk (shut_bool Tryz.underlying4 true) trodAll_mk0
  · exact trodAll_cons_mk (Below.trod laidOut (by kernel_rfl) (of_decide_eq_true (by kernel_rfl)) h0 hb (hl p0 fun x hx => by simp [hx])) (trodAll_cons_mk (Below.trod laidOut (by kernel_rfl) (of_decide_eq_true (by kernel_rfl)) h1 hb (hl p1 fun x hx => by simp [hx]))
      (trodAll_cons_mk (Below.trod laidOut (by kernel_rfl) (of_decide_eq_true (by kernel_rfl)) h2 hb (hl p2 fun x hx => by simp [hx])) (trodAll_cons_mk (Below.trod laidOut (by kernel_rfl) (of_decide_eq_true (by kernel_rfl)) h3 hb (hl p3 fun x hx => by simp [hx])) trodAll_mk0)))
  · rfl

end Go.Proofs.YtognccpmaljamaaGreatDoor.Sa
