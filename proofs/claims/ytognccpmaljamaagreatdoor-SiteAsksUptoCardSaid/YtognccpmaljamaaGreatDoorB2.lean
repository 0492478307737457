/- SiteAsks answers true for every input whose arguments hold together at most 1048576 values and letters, and leaves its arguments as they were; the listed package-level tables hold what the program's text lays. -/
import Derived.Test.YtognccpmaljamaaGreatDoorB1
import Derived.Great.BuildSlice
import Derived.Laws.MakeOwn
import Derived.Lib.ConvBytes
import Derived.Deep.Upon
import Derived.Laws.StructEq
set_option linter.unusedVariables false
set_option linter.unusedSimpArgs false
set_option linter.unusedSectionVars false
set_option linter.unnecessarySimpa false
set_option linter.constructorNameAsVariable false
/- AS, part S9: variables made; structs and slices built. -/
namespace Go.Proofs.YtognccpmaljamaaGreatDoor.Sa
open Go
variable [GlobMem]

theorem zeroCell_hold {a : AVal} {z : Value} (h : zeroCell a z = true) : z.oneCell' = true ∧ ∀ (Own : Owner) (w : World) (ρ : List Nat) (M : Mem) (ℓ : List Nat → Loc), Hold Own w ρ M ℓ a z := by
  unfold zeroCell at h
  split at h
  · rename_i k n k' n'
    simp only [Bool.and_eq_true, decide_eq_true_eq, beq_iff_eq] at h
    obtain ⟨rfl, rfl⟩ := h
    exact ⟨rfl, fun _ _ _ _ _ => by simp only [Hold, AVal.uniq, V]⟩
  · simp only [beq_iff_eq] at h; subst h
    exact ⟨rfl, fun _ _ _ _ _ => by simp only [Hold, AVal.uniq, V]⟩
  · rename_i s
    refine ⟨rfl, fun _ _ _ _ _ => ?_⟩
    simp only [Hold, AVal.uniq, V, strV]
    congr 1
    apply ByteArray.ext
    apply Array.ext'
    simpa [List.isEmpty_iff] using h
  · exact ⟨rfl, fun _ _ _ _ _ => by simp only [Hold, AVal.uniq, V]⟩
  · exact ⟨rfl, fun _ _ _ _ _ => by simp only [Hold, AVal.uniq]; exact ⟨trivial, none, 0, rfl, Nat.le_refl _, .inl ⟨rfl, rfl⟩⟩⟩
  · exact ⟨rfl, fun _ _ _ _ _ => by simp only [Hold, AVal.uniq]; exact ⟨trivial, none, 0, rfl, Nat.le_refl _, .inl ⟨rfl, rfl⟩⟩⟩
  · exact ⟨rfl, fun _ _ _ _ _ => by simp only [Hold, AVal.uniq]; exact ⟨trivial, none, 0, rfl, Nat.le_refl _, .inl ⟨rfl, rfl⟩⟩⟩
  · exact ⟨rfl, fun _ _ _ _ _ => by simp only [Hold, AVal.uniq]; exact ⟨fun r hr => by simp at hr, none, 0, rfl, Nat.le_refl _, .inl ⟨rfl, rfl⟩⟩⟩
  · exact ⟨rfl, fun _ _ _ _ _ => by simp only [Hold, AVal.uniq, V]⟩
  · exact ⟨rfl, fun _ _ _ _ _ => by simp only [Hold, AVal.uniq, V]⟩
  · exact ⟨h, fun _ _ _ _ _ => by simp only [Hold, AVal.uniq, V]⟩
  · cases h

theorem zeroCells_hold : ∀ {as : List AVal} {zs : List Value}, zeroCells as zs = true → as.length = zs.length ∧ ∀ (o : Nat) a z, as[o]? = some a → zs[o]? = some z → zeroCell a z = true
  | [], [], _ => ⟨rfl, fun o a z h => by simp at h⟩
  | a :: as, z :: zs, h => by
    simp only [zeroCells, Bool.and_eq_true] at h
    obtain ⟨h1, h2⟩ := zeroCells_hold h.2
    refine ⟨by simp [h1], fun o b u hb hu => ?_⟩
    cases o with
    | zero => simp at hb hu; subst hb hu; exact h.1
    | succ o => simp at hb hu; exact h2 o b u hb hu
  | [], _ :: _, h => by simp [zeroCells] at h
  | _ :: _, [], h => by simp [zeroCells] at h

/-- A type's zero, by cells. -/
theorem TyOK.zero {P : Program} {t : Nat} {d : TD} (h : TyOK P t d) : ∃ (i : TypeInfo) (z : Value), P.info? t = some i ∧ i.size = d.size ∧ i.bytes ≤ 4096 ∧ i.zero = some z ∧ z.cells.size = d.zero.length ∧ d.zero.length = d.size ∧
    ∀ (o : Nat) (a : AVal) (u : Value), d.zero[o]? = some a → z.cells[o]? = some u → zeroCell a u = true := by
  obtain ⟨i, z, hi, hs, hb, hz, hby, hk⟩ := h.info
  refine ⟨i, z, hi, hs, hby, hz, ?_⟩
  cases hd : d.agg? with
  | true =>
    simp only [hd] at hk
    obtain ⟨zs, rfl, hzc, hl⟩ := hk
    obtain ⟨h1, h2⟩ := zeroCells_hold hzc
    exact ⟨by simp [Value.cells, h1], hl, fun o a u ha hu => h2 o a u ha (by simpa [Value.cells] using hu)⟩
  | false =>
    simp only [hd] at hk
    obtain ⟨h1, a, ha, hza, hna, hone⟩ := hk
    rw [ha, cells_one hone]
    refine ⟨rfl, by rw [h1]; rfl, fun o b u hb hu => ?_⟩
    cases o with
    | zero => simp at hb hu; subst hb hu; exact hza
    | succ o => simp at hb

theorem VL_iff {ρ : List Nat} {M : Mem} : ∀ (as : List AVal) (vs : List Value), VL ρ M as vs ↔ as.length = vs.length ∧ ∀ (j : Nat) a v, as[j]? = some a → vs[j]? = some v → V ρ M a v
  | [], [] => by simp [VL]
  | a :: as, v :: vs => by
    simp only [VL, VL_iff as vs, List.length_cons]
    constructor
    · rintro ⟨h0, hl, h⟩
      refine ⟨by rw [hl], fun j b u hb hu => ?_⟩
      cases j with
      | zero => simp at hb hu; subst hb hu; exact h0
      | succ j => simp at hb hu; exact h j b u hb hu
    · rintro ⟨hl, h⟩
      exact ⟨h 0 a v rfl rfl, by omega, fun j b u hb hu => h (j + 1) b u (by simpa using hb) (by simpa using hu)⟩
  | [], _ :: _ => by simp [VL]
  | _ :: _, [] => by simp [VL]

section
variable {P : Program} {cx : Cx} {B : Base} {o : Oper} {a : Act} {w : World} {s : S}

theorem step_alloc (hT : TysOK P cx) (h : RSx B s a.tmps w) (t : TypeId) (hop : o.op = .alloc t) (K : KV) :
    StepOK P B o a w (match cx.ty.find t with
      | some d => K (.ptr s.heap.length 0) { s with heap := s.heap ++ [d.zero] }
      | none => none) K := by
  intro r hr
  split at hr
  · rename_i d hd
    obtain ⟨i, z, hi, hs, _, hz, hl, _, hc⟩ := (hT t d hd).zero
    obtain ⟨Own, ρ, M, h⟩ := h
    have hrun : (execOp a.eval o).run P w = .ok (.value (.pointer (some ⟨w.heap.size, 0, none⟩))) { w with heap := w.heap.push (.cells z.cells t (0, 0)) } := by
      simp [execOp, hop, Instr.alloc, zeroValue, typeInfo, hi, hz, newVar, newRow, -run_newObj_alloc, -World.alloc_eq]
    obtain ⟨hp, hg0, hgo⟩ := h.push (w' := { w with heap := w.heap.push (.cells z.cells t (0, 0)) }) rfl rfl rfl rfl (.var s.heap.length)
    refine ⟨_, _, hr, OpOK.of_run hrun ⟨_, ρ ++ [w.heap.size], M, hp.addBlk ⟨w.heap.size, z.cells, t, ?_, addO_here, hg0, hl, fun o b u hb hu => ?_⟩, ?_⟩⟩
    · rw [← h.hlen, List.getElem?_append_right (by omega)]; simp
    · obtain ⟨h1, h2⟩ := zeroCell_hold (hc o b u hb hu)
      exact ⟨h1, h2 _ _ _ _ _⟩
    · simp only [SlotOK, Hold, AVal.uniq, V]
      exact ⟨w.heap.size, by rw [← h.hlen, List.getElem?_append_right (by omega)]; simp, rfl⟩
  · cases hr

/-- A new block that stays. -/
theorem RS.newStay {B : Base} {s : S} {tm : Array Value} {w : World} {Own : Owner} {ρ : List Nat} {M : Mem} (h : RS B s tm w Own ρ M) {a : AVal} {v : Value} (hst : a.st = true) (hf : V ρ M a v) {w' : World} {e : TypeId} (hh : w'.heap = w.heap.push (.cells v.cells e (0, 0))) (hos : w'.os = w.os) (ht : w'.tape = w.tape) (ho : w'.output = w.output) :
    ∃ M', RS B s tm w' Own ρ M' ∧ V ρ M' (.rptr a.cells) (.pointer (some ⟨w.heap.size, 0, none⟩)) := by
  have hsz : w'.heap.size = w.heap.size + 1 := by rw [hh, Array.size_push]
  have hold : ∀ g, g ≠ w.heap.size → w'.heap[g]? = w.heap[g]? := fun g hg => by
    rw [hh, Array.getElem?_push, if_neg hg]
  have hnew : w'.heap[w.heap.size]? = some (.cells v.cells e (0, 0)) := by rw [hh, Array.getElem?_push, if_pos rfl]
  obtain ⟨c1, c2, c3⟩ := Hold_cells (Own := fun _ => none) (w := w) (ℓ := .fly 0) hst (Hold_of_V a v _ hf)
  have hfresh : ∀ o, M w.heap.size o = none := fun o => by
    cases hq : M w.heap.size o with
    | none => rfl
    | some c =>
      have := (h.wi.agree _ _ _ hq).1
      simp [World.cell?] at this
  have hlt : ∀ g o c, M g o = some c → g ≠ w.heap.size := fun g o c hc e => by rw [e, hfresh o] at hc; cases hc
  have hM : MLe M (fun g o => if g = w.heap.size then v.cells[o]? else M g o) := fun g o c hc => by
    dsimp only
    rw [if_neg (hlt g o c hc)]; exact hc
  refine ⟨fun g o => if g = w.heap.size then v.cells[o]? else M g o, ?_, ?_⟩
  · refine h.turn (Ext.refl _) hM ⟨fun g o c hc => ?_, fun g q hg o => ?_, fun g q hg => ?_⟩ (h.fr.to hos ht ho (by omega) fun g hg _ => hold g (by have := h.fr.size; omega)) h.own0 (fun g o c hc => ?_) rfl h.hlen
      (fun t a v ha hv => .inl ⟨ha, fun g p hg => ⟨hg, hold g (by have := h.wi.lt g _ hg; omega)⟩⟩) (fun u b hb hu => ⟨b, hb, hu⟩) (fun b cs hb hne => .inl ⟨hb, fun g ℓ _ hg => ⟨hg, hold g (by have := h.wi.lt g _ hg; omega)⟩⟩)
    · split at hc
      · rename_i eg
        rw [eg, cell_at hnew]
        exact ⟨hc, c2 c (by
          have := Array.mem_of_getElem? hc
          simpa using this)⟩
      · rename_i eg
        obtain ⟨k1, k2⟩ := h.wi.agree g o c hc
        exact ⟨by rw [cell_congr (hold g eg)]; exact k1, k2⟩
    · have := h.wi.lt g q hg
      rw [if_neg (by omega)]
      exact h.wi.free g q hg o
    · have := h.wi.lt g q hg; omega
    · split at hc
      · rename_i eg; right; right; rw [eg]; exact h.fr.size
      · exact h.mnew g o c hc
  · simp only [V]
    refine ⟨w.heap.size, 0, rfl, (VC_iff _ _ _ _ _).2 fun i b hb => ?_⟩
    have hi : i < v.cells.size := by rw [c1]; exact (List.getElem?_eq_some_iff.1 hb).1
    refine ⟨v.cells[i], by rw [if_pos rfl, Nat.zero_add]; exact Array.getElem?_eq_getElem hi, V_mono (Ext.refl _) hM _ _ ?_⟩
    cases hna : a.isAgg with
    | true =>
      cases a <;> simp only [AVal.isAgg, Bool.false_eq_true, reduceCtorEq] at hna
      rename_i cs
      simp only [V] at hf
      obtain ⟨vs, rfl, hl, _⟩ := hf
      rw [VL_iff] at hl
      exact hl.2 i b _ (by simpa [AVal.cells] using hb) (by simp [Value.cells] at hi ⊢)
    | false =>
      have h1 := V_one hst hna hf
      have ec : a.cells = [a] := by cases a <;> simp_all [AVal.cells, AVal.isAgg]
      rw [ec] at hb
      have i0 : i = 0 := by
        have := (List.getElem?_eq_some_iff.1 hb).1
        simp at this; omega
      subst i0
      simp at hb; subst hb
      have : v.cells[0] = v := by simp [cells_one h1]
      rw [this]; exact hf

theorem step_box (hT : TysOK P cx) (h : RSx B s a.tmps w) (t : TypeId) (x : Operand) (hop : o.op = .box t x) (m : Nat) (stay : Bool) (K : KV) :
    StepOK P B o a w (match cx.ty.find t with
      | some d => s.rd (some d) m x fun v s => match v.st && Nat.beq v.cells.length d.size with
        | true => match stay with
          | true => match v.pure with
            | true => K (.rptr v.cells) s
            | false => none
          | false => K (.ptr s.heap.length 0) { s with heap := s.heap ++ [v.cells] }
        | false => none
      | none => none) K := by
  intro r hr
  split at hr
  · rename_i d hd
    obtain ⟨Own, ρ, M, h⟩ := h
    obtain ⟨v, s', Own', M', hK, hs', hf, _, _⟩ := rd_okF h _ m x _ r hr
    split at hK
    · rename_i hc
      simp only [Bool.and_eq_true] at hc
      have hrun : (execOp a.eval o).run P w = .ok (.value (.pointer (some ⟨w.heap.size, 0, none⟩))) { w with heap := w.heap.push (.cells (a.eval x).cells t (0, 0)) } := by
        simp [execOp, hop, Instr.box, newVar, newRow, -run_newObj_alloc, -World.alloc_eq]
      have hr0 : v.ref? = none := by cases v <;> simp_all [AVal.st, AVal.ref?]
      rw [SlotOK_plain hr0] at hf
      split at hK
      · split at hK
        · rename_i hp
          obtain ⟨M2, h2, hv2⟩ := hs'.newStay hc.1 (V_of_Hold _ _ _ hp hf) (w' := { w with heap := w.heap.push (.cells (a.eval x).cells t (0, 0)) }) (e := t) rfl rfl rfl rfl
          exact ⟨_, _, hK, OpOK.of_run hrun (RF.of_V h2 hv2 rfl)⟩
        · cases hK
      obtain ⟨O2, h2⟩ := hs'.newBlk hc.1 hf (w' := { w with heap := w.heap.push (.cells (a.eval x).cells t (0, 0)) }) (e := t) rfl rfl rfl rfl
      refine ⟨_, _, hK, OpOK.of_run hrun ⟨O2, _, M', h2, ?_⟩⟩
      simp only [SlotOK, Hold, AVal.uniq, V]
      exact ⟨w.heap.size, by rw [← hs'.hlen, List.getElem?_append_right (by omega)]; simp, rfl⟩
    · cases hK
  · cases hr

/-! ### structs -/
theorem fill_fold : ∀ (l : List Value) (k off : Nat) (arr : Array Value), (l.zipIdx k).foldl (fun cs x => cs.setIfInBounds (off + x.2) x.1) arr = putArr arr (off + k) l
  | [], _, _, _ => rfl
  | v :: l, k, off, arr => by
    rw [List.zipIdx_cons, List.foldl_cons, fill_fold l (k + 1) off, putArr]
    rfl

theorem fill_step (place : Nat → Option (Nat × Nat)) (arr : Array Value) (i : Nat) (v : Value) (rest : List (Nat × Value)) {off size : Nat} (hp : place i = some (off, size)) (h1 : v.cells.size = size) (h2 : off + v.cells.size ≤ arr.size) :
    Instr.fill place arr ((i, v) :: rest) = Instr.fill place (putArr arr off v.cells.toList) rest := by
  have e : v.cells.zipIdx.foldl (fun cs (x : Value × Nat) => cs.setIfInBounds (off + x.2) x.1) arr = putArr arr off v.cells.toList := by
    rw [← Array.foldl_toList, Array.toList_zipIdx, fill_fold]
    rfl
  have hn : (v.cells.size ≠ size || decide (off + v.cells.size > arr.size)) = false := by simp; omega
  simp only [Instr.fill, hp]
  rw [if_neg (by simp; omega)]
  rw [e]

/-- Cells under way, gathered. -/
noncomputable def Gath (Own : Owner) (w : World) (ρ : List Nat) (M : Mem) (cs : List AVal) (arr : Array Value) : Prop :=
  arr.size = cs.length ∧ ∀ (o : Nat) (b : AVal) (u : Value), cs[o]? = some b → arr[o]? = some u → u.oneCell' = true ∧ Hold Own w ρ M (fun _ => .fly 1 [o]) b u

noncomputable def gathTo (off n : Nat) : Loc → Loc
  | .fly 1 [o] => if off ≤ o ∧ o < off + n then .fly 7 [] else .fly 1 [o]
  | .fly 0 [] => .fly 1 [off]
  | .fly 0 (i :: _) => .fly 1 [off + i]
  | q => q

theorem gath_at {a : AVal} {x : AVal} {j : Nat} (h : a.cells[j]? = some x) (off n : Nat) : gathTo off n (.fly 0 (a.at j)) = .fly 1 [off + j] := by
  cases hag : a.isAgg with
  | true => cases a <;> simp_all [AVal.isAgg, AVal.at, gathTo]
  | false =>
    have ec : a.cells = [a] := by cases a <;> simp_all [AVal.cells, AVal.isAgg]
    rw [ec] at h
    cases j with
    | zero => cases a <;> simp_all [AVal.isAgg, AVal.at, gathTo]
    | succ j => simp at h

theorem Gath.add {Own : Owner} {ρ : List Nat} {M : Mem} {tm : Array Value} (h : RS B s tm w Own ρ M) {cs : List AVal} {arr : Array Value} (hg : Gath Own w ρ M cs arr) {b : AVal} {v : Value} (hst : b.st = true) (hf : Hold Own w ρ M (.fly 0) b v) {off : Nat} (hin : off + b.cells.length ≤ cs.length) :
    RS B s tm w (Own.mv (gathTo off b.cells.length)) ρ M ∧ Gath (Own.mv (gathTo off b.cells.length)) w ρ M (splice off b.cells cs) (putArr arr off v.cells.toList) := by
  obtain ⟨hsz, hone, hc⟩ := Hold_cells hst hf
  refine ⟨h.mv _ (fun _ _ => rfl) (fun _ => rfl) (fun _ _ => rfl), by rw [putArr_size, splice_length _ _ _ hin]; exact hg.1, fun o x u hx hu => ?_⟩
  rw [splice_get _ _ _ _ hin] at hx
  rw [putArr_get] at hu
  have hvl : v.cells.toList.length = b.cells.length := by simpa using hsz
  rw [hvl] at hu
  have := hg.1
  by_cases hr : off ≤ o ∧ o < off + b.cells.length
  · rw [if_pos hr] at hx
    rw [if_pos ⟨hr.1, hr.2, by omega⟩, Array.getElem?_toList] at hu
    obtain ⟨m1, m2⟩ := hc _ x u hx hu
    refine ⟨m1, Hold_move (Ext.refl _) (MLe.refl _) x u _ _ (fun y p hy => ⟨?_, rfl⟩) m2⟩
    have := gath_at hx off b.cells.length
    rw [show off + (o - off) = o by omega] at this
    simp only [Owner.mv, hy, Option.map_some, this]
  · rw [if_neg hr] at hx
    rw [if_neg (by omega)] at hu
    obtain ⟨m1, m2⟩ := hg.2 o x u hx hu
    refine ⟨m1, Hold_move (Ext.refl _) (MLe.refl _) x u _ _ (fun y p hy => ⟨?_, rfl⟩) m2⟩
    simp [Owner.mv, hy, gathTo, hr]

theorem fields_ok (fs : List (Nat × Nat × Nat)) (K : KV) (r : Res) : ∀ (parts : List (Nat × Operand)) (ms : List Nat) (s : S) (cs : List AVal) (arr : Array Value) (Own : Owner) (ρ : List Nat) (M : Mem), RS B s a.tmps w Own ρ M → Gath Own w ρ M cs arr →
    fieldsFill cx fs ms parts s cs K = some r →
    ∃ cs' s' arr' Own' M', K (.agg cs') s' = some r ∧ Instr.fill ((fs.map fun x => (x.1, x.2.1)).toArray[·]?) arr (parts.map fun x => (x.1, a.eval x.2)) = some arr' ∧ RS B s' a.tmps w Own' ρ M' ∧ Gath Own' w ρ M' cs' arr'
  | [], ms, s, cs, arr, Own, ρ, M, h, hg, hr => ⟨cs, s, arr, Own, M, hr, rfl, h, hg⟩
  | (i, x) :: rest, ms, s, cs, arr, Own, ρ, M, h, hg, hr => by
    unfold fieldsFill at hr
    split at hr
    · cases hr
    · rename_i off z t hf
      obtain ⟨v, s', Own', M', hK, hs', hfl, hM, hkeep⟩ := rd_okF h _ _ x _ r hr
      split at hK
      · rename_i hc
        simp only [Bool.and_eq_true] at hc
        obtain ⟨hst, hz, hle⟩ := hc
        have hz := Nat.eq_of_beq_eq_true hz
        have hle := Nat.le_of_ble_eq_true hle
        have hr0 : v.ref? = none := by cases v <;> simp_all [AVal.st, AVal.ref?]
        rw [SlotOK_plain hr0] at hfl
        have hg' : Gath Own' w ρ M' cs arr := ⟨hg.1, fun o b u hb hu => let ⟨k1, k2⟩ := hg.2 o b u hb hu; ⟨k1, Hold_move (Ext.refl _) hM b u _ _ (fun g p hg => ⟨hkeep g 1 _ (by decide) hg, rfl⟩) k2⟩⟩
        obtain ⟨h2, hg2⟩ := hg'.add hs' hst hfl (off := off) (by omega)
        obtain ⟨cs', s2, arr', O3, M3, hK3, hfill, h3, hg3⟩ := fields_ok fs K r rest _ _ _ _ _ _ _ h2 hg2 hK
        refine ⟨cs', s2, arr', O3, M3, hK3, ?_, h3, hg3⟩
        have hsz := (Hold_cells hst hfl).1
        rw [List.map_cons]
        show Instr.fill _ arr ((i, a.eval x) :: _) = _
        rw [fill_step _ _ _ _ _ (off := off) (size := z) (by simp [hf]) (by omega) (by rw [hg.1]; omega)]
        exact hfill
      · cases hK

theorem mapM_fields {F : Array Go.Field} {fs : List (Nat × Nat × Nat)} (h : fieldsOK P fs F) : F.toList.mapM (fun f => (P.info? f.type).map fun i => (f.offset, i.size)) = some (fs.map fun x => (x.1, x.2.1)) := by
  obtain ⟨hl, h⟩ := h
  have key : ∀ (L : List Go.Field) (fs : List (Nat × Nat × Nat)), L.length = fs.length → (∀ (i : Nat) (f : Nat × Nat × Nat), fs[i]? = some f → ∃ g : Go.Field, L[i]? = some g ∧ g.offset = f.1 ∧ g.type = f.2.2 ∧ g.name ≠ "_" ∧ (P.info? g.type).map (·.size) = some f.2.1) →
      L.mapM (fun f => (P.info? f.type).map fun i => (f.offset, i.size)) = some (fs.map fun x => (x.1, x.2.1)) := by
    intro L
    induction L with
    | nil => intro fs hl h; cases fs with | nil => rfl | cons f fs => simp at hl
    | cons g L ih =>
      intro fs hl h
      cases fs with
      | nil => simp at hl
      | cons f fs =>
        obtain ⟨g', hg, ho, ht, _, hz⟩ := h 0 f rfl
        simp at hg; subst hg
        have := ih fs (by simpa using hl) (fun i f hf => by simpa using h (i + 1) f (by simpa using hf))
        cases hi : P.info? g.type with
        | none => simp [hi] at hz
        | some i =>
          simp [hi] at hz
          simp [List.mapM_cons, hi, this, ho, hz]
  exact key F.toList fs (by simpa using hl) (fun i f hf => by simpa using h i f hf)

noncomputable def flyBack : Loc → Loc
  | .fly 1 p => .fly 0 p
  | .fly 0 _ => .fly 7 []
  | q => q

theorem step_build (hT : TysOK P cx) (h : RSx B s a.tmps w) (t : TypeId) (parts : Array (Nat × Operand)) (hop : o.op = .build t parts) (ms : List Nat) (K : KV) :
    StepOK P B o a w (match cx.ty.find t with
      | some d => match d.k with
        | .struct fs => fieldsFill cx fs ms parts.toList s d.zero K
        | _ => none
      | none => none) K := by
  intro r hr
  split at hr
  · rename_i d hd
    split at hr
    · rename_i fs hdk
      obtain ⟨Own, ρ, M, h⟩ := h
      obtain ⟨i, z, hi, hs, _, hz, hl, _, hc⟩ := (hT t d hd).zero
      obtain ⟨u, hu, hk⟩ := (hT t d hd).und
      rw [hdk] at hk
      obtain ⟨F, rfl, hF⟩ := hk
      have hg0 : Gath Own w ρ M d.zero z.cells := ⟨hl, fun o b u hb hu => let ⟨k1, k2⟩ := zeroCell_hold (hc o b u hb hu); ⟨k1, k2 _ _ _ _ _⟩⟩
      obtain ⟨cs', s', arr', Own', M', hK, hfill, h', hg'⟩ := fields_ok fs K r parts.toList ms s d.zero z.cells Own ρ M h hg0 hr
      have hb : P.built t (parts.map fun x => (x.1, a.eval x.2)).toList = some arr' := by
        simp only [Program.built, hi, hu, hz, mapM_fields hF, Array.toList_map]
        exact hfill
      have hrun : (execOp a.eval o).run P w = .ok (.value (.agg arr')) w := by
        simp only [execOp, hop, Sem.run_bind]
        rw [show (parts.map fun (x : Nat × Operand) => match x with | (i, x) => (i, a.eval x)) = parts.map fun x => (x.1, a.eval x.2) from rfl, run_build w t _ arr' hb]
        rfl
      have hb2 := h'.mv flyBack (fun _ _ => rfl) (fun _ => rfl) (fun _ _ => rfl)
      refine ⟨_, s', hK, OpOK.of_run hrun ⟨_, ρ, M', hb2, ?_⟩⟩
      simp only [SlotOK, Hold]
      refine ⟨arr'.toList, by simp, (HoldL_iff _ _ _).2 ⟨by simp [hg'.1], fun j x u hx hu => ?_⟩, fun u hu => ?_⟩
      · obtain ⟨k1, k2⟩ := hg'.2 j x u hx (by simpa using hu)
        refine Hold_flat (ℓ := fun _ => .fly 0 [j]) k1 (by simp) (Hold_move (Ext.refl _) (MLe.refl _) x u _ _ (fun g p hg => ⟨by simp [Owner.mv, hg, flyBack], rfl⟩) k2)
      · obtain ⟨j, hu⟩ := List.getElem?_of_mem hu
        have hj : j < cs'.length := by have := (List.getElem?_eq_some_iff.1 hu).1; have := hg'.1; simp at *; omega
        exact (hg'.2 j cs'[j] u (List.getElem?_eq_getElem hj) (by simpa using hu)).1
    · cases hr
  · cases hr

/-- A block laid open; nobody goes to it any more. -/
theorem RS.openBlk {B : Base} {s : S} {tm : Array Value} {w : World} {Own : Owner} {ρ : List Nat} {M : Mem} (h : RS B s tm w Own ρ M) {b : Nat} {cs : List AVal} (hb : s.heap[b]? = some cs) (hne : cs ≠ []) (hp : pureL cs = true) :
    ∃ Own' M', RS B { s with heap := s.heap.set b [] } tm w Own' ρ M' ∧ MLe M M' ∧ ∃ g, ρ[b]? = some g ∧ VC ρ M' g 0 cs := by
  obtain ⟨g, arr, e, hg, hO, hw, hsz, hc⟩ := h.heap b cs hb hne
  have hlt : g < w.heap.size := h.wi.lt g _ hO
  have hM : MLe M (fun x o => if x = g then arr[o]? else M x o) := fun x o c hc => by
    have : x ≠ g := fun e => by rw [e, h.wi.free g _ hO o] at hc; cases hc
    dsimp only
    rw [if_neg this]; exact hc
  have ne : ∀ x q, Own x = some q → x ≠ g ∨ q = .var b := fun x q hx => by
    by_cases e : x = g
    · right; rw [e, hO] at hx; exact (Option.some.inj hx).symm
    · exact .inl e
  have onec : ∀ (o : Nat) (c : Value), arr[o]? = some c → c.oneCell' = true := fun o c ho => by
    have hlt : o < cs.length := by rw [← hsz]; exact (Array.getElem?_eq_some_iff.1 ho).1
    exact (hc o cs[o] c (List.getElem?_eq_getElem hlt) ho).1
  have pget : ∀ (l : List AVal) (o : Nat) (x : AVal), pureL l = true → l[o]? = some x → x.pure = true := by
    intro l
    induction l with
    | nil => intro o x _ h; simp at h
    | cons y l ih =>
      intro o x hp hx
      obtain ⟨p1, p2⟩ := pureL_cons.1 hp
      cases o with
      | zero => simp at hx; subst hx; exact p1
      | succ o => simp at hx; exact ih o x p2 hx
  refine ⟨fun x => if x = g then none else Own x, fun x o => if x = g then arr[o]? else M x o, ?_, hM, g, hg, ?_⟩
  · have keep : ∀ x q, Own x = some q → q ≠ .var b → (fun x => if x = g then none else Own x) x = some q ∧ w.heap[x]? = w.heap[x]? := fun x q hx hq => by
      refine ⟨?_, rfl⟩
      dsimp only
      rw [if_neg ((ne x q hx).resolve_right hq)]; exact hx
    refine h.turn (Ext.refl _) hM ⟨fun x o c hc => ?_, fun x q hx o => ?_, fun x q hx => ?_⟩ h.fr (fun x q hx => ?_) (fun x o c hc => ?_) rfl (by simp [h.hlen])
      (fun t a v ha hv => .inl ⟨ha, fun x p hx => keep x _ hx (by intro e; cases e)⟩) (fun u b hb hu => ⟨b, hb, hu⟩) (fun b' cs' hb' hne' => .inl ?_)
    · split at hc
      · rename_i eg
        rw [eg]
        exact ⟨by simp [World.cell?, hw, hc], onec o c hc⟩
      · exact h.wi.agree x o c hc
    · split at hx
      · cases hx
      · rename_i eg
        rw [if_neg eg]
        exact h.wi.free x q hx o
    · split at hx
      · cases hx
      · exact h.wi.lt x q hx
    · split at hx
      · cases hx
      · exact h.own0 x q hx
    · split at hc
      · rename_i eg
        rw [eg]
        exact .inr (h.own0 g _ hO)
      · exact h.mnew x o c hc
    · dsimp only at hb'
      rw [List.getElem?_set] at hb'
      split at hb'
      · split at hb'
        · cases hb'; exact absurd rfl hne'
        · cases hb'
      · rename_i hbb
        refine ⟨hb', fun x ℓ hl hx => keep x ℓ hx fun e => ?_⟩
        rcases hl with rfl | ⟨o, rfl⟩
        · cases e; exact hbb rfl
        · cases e
  · rw [VC_iff]
    intro i x hx
    have hi : i < arr.size := by rw [hsz]; exact (List.getElem?_eq_some_iff.1 hx).1
    refine ⟨arr[i], by rw [if_pos rfl, Nat.zero_add]; exact Array.getElem?_eq_getElem hi, V_mono (Ext.refl _) hM _ _ ?_⟩
    exact V_of_Hold x _ _ (pget cs i x hp hx) (hc i x _ hx (Array.getElem?_eq_getElem hi)).2

theorem ptrOf_eq {v : AVal} {b o : Nat} (h : ptrOf v = some (b, o)) : v = .ptr b o := by
  cases v <;> simp [ptrOf] at h
  rw [h.1, h.2]

theorem step_sliceVA (hT : TysOK P cx) (h : RSx B s a.tmps w) (t : TypeId) (x : Operand) (lo hi : Option Operand) (hop : o.op = .slice t x lo hi none) {b boff : Nat} (hx : s.rdo none x = .ptr b boff) (K : KV) :
    StepOKp P B o a w (sliceVA cx t b boff lo hi s K) K := by
  intro r hr
  unfold sliceVA at hr
  split at hr
  · rename_i d hd
    obtain ⟨ut, hut, hkt⟩ := (hT t d hd).und
    split at hr
    · rename_i n e z hk
      split at hr
      · rename_i de hde
        split at hr
        · rename_i k hke
          split at hr
          · rename_i c0 cs0 hb
            generalize hcs : c0 :: cs0 = cs at hr hb
            have hne : cs ≠ [] := by rw [← hcs]; simp
            split at hr
            · rename_i hz
              simp only [Bool.and_eq_true] at hz
              obtain ⟨hz1, hn, hp⟩ := hz
              have hz1 := Nat.eq_of_beq_eq_true hz1
              have hn := Nat.le_of_ble_eq_true hn
              subst hz1
              split at hr
              · rename_i l hl
                split at hr
                · rename_i q hq
                  obtain ⟨hc, hr⟩ := gd_some hr
                  simp only [decide_eq_true_eq] at hc
                  obtain ⟨h0, h1, h2⟩ := hc
                  split at hr
                  · rename_i xs hxs
                    rw [hk] at hkt
                    simp only [kindOK] at hkt
                    obtain ⟨rfl, hsz⟩ := hkt
                    have hbnd := fun w' => run_bounds (P := P) h false n n (Nat.le_refl _) hl hq h0 h1 h2 w'
                    obtain ⟨Own, ρ, M, hs⟩ := h
                    have hv := rdo_pure hs none x (by rw [hx]; rfl)
                    rw [hx] at hv
                    simp only [V] at hv
                    obtain ⟨g, hg, hv⟩ := hv
                    have hrun : ∀ w', (execOp a.eval o).run P w' = .ok (.value (.slice (some (if n = l.toNat then ⟨g, boff, none⟩ else (⟨g, boff, none⟩ : Addr).add (l.toNat * 1))) (q.toNat - l.toNat) (n - l.toNat))) w' := by
                      intro w'
                      have hb := hbnd w'
                      cases hi' : P.info? e with
                      | none => rw [hi'] at hsz; cases hsz
                      | some i =>
                        rw [hi'] at hsz
                        simp only [Option.map_some, Option.some.injEq] at hsz
                        simp [execOp, hop, Instr.sliceAt, run_underlying hut, hv, hb, Go.sizeOf, typeInfo, hi', hsz, Instr.sureAddr]
                    obtain ⟨Own', M', h', hM, g', hg', hcl⟩ := hs.openBlk hb hne hp
                    rw [hg] at hg'; cases hg'
                    refine ⟨_, _, hr, OpOKp.of_run hrun (RF.of_V h' ?_ rfl)⟩
                    have hcut := intsC_get hxs
                    have hlen : xs.length = q.toNat - l.toNat := by
                      have := congrArg List.length hcut
                      rw [cut_length _ _ _ (by simp; omega), List.length_map] at this
                      exact this.symm
                    simp only [V]
                    refine ⟨trivial, _, _, by rw [hlen], by omega, ?_⟩
                    by_cases hz : xs = []
                    · left; rw [hz]; rfl
                    · right
                      have hlt : 0 < xs.length := List.length_pos_iff.2 hz
                      have hnl : n ≠ l.toNat := by omega
                      refine ⟨g, boff + l.toNat, by simp [hnl, Addr.add_mid], fun i p hp => ?_⟩
                      rw [List.getElem?_map, Option.map_eq_some_iff] at hp
                      obtain ⟨y, hy, rfl⟩ := hp
                      have hyc : (cut (cs.drop boff) l.toNat q.toNat)[i]? = some (.int k y) := by rw [hcut, List.getElem?_map, hy]; rfl
                      obtain ⟨k1, _⟩ := cut_get _ _ _ _ _ hyc
                      rw [List.getElem?_drop] at k1
                      rw [VC_iff] at hcl
                      obtain ⟨c, m1, m2⟩ := hcl (boff + (l.toNat + i)) _ k1
                      refine ⟨c, by rw [Nat.add_assoc]; simpa using m1, ?_⟩
                      simpa only [V] using m2
                  · cases hr
                · cases hr
              · cases hr
            · cases hr
          · cases hr
        · cases hr
      · cases hr
    · cases hr
  · cases hr

end
end Go.Proofs.YtognccpmaljamaaGreatDoor.Sa

/- AS, part S10: slices made. -/
namespace Go.Proofs.YtognccpmaljamaaGreatDoor.Sa
open Go
variable [GlobMem]

theorem V_cells {ρ : List Nat} {M : Mem} {a : AVal} {v : Value} (hst : a.st = true) (h : V ρ M a v) : v.cells.size = a.cells.length ∧ (∀ u ∈ v.cells.toList, u.oneCell' = true) ∧
    ∀ (o : Nat) (b : AVal) (u : Value), a.cells[o]? = some b → v.cells[o]? = some u → V ρ M b u := by
  cases hna : a.isAgg with
  | true =>
    cases a <;> simp only [AVal.isAgg, Bool.false_eq_true, reduceCtorEq] at hna
    rename_i cs
    simp only [V] at h
    obtain ⟨vs, rfl, hl, h1⟩ := h
    rw [VL_iff] at hl
    exact ⟨by simp [Value.cells, AVal.cells, hl.1], by simpa [Value.cells] using h1, fun o b u hb hu => hl.2 o b u (by simpa [AVal.cells] using hb) (by simpa [Value.cells] using hu)⟩
  | false =>
    have h1 := V_one hst hna h
    have ec : a.cells = [a] := by cases a <;> simp_all [AVal.cells, AVal.isAgg]
    rw [cells_one h1, ec]
    refine ⟨rfl, by simpa using h1, fun o b u hb hu => ?_⟩
    cases o with
    | zero => simp at hb hu; subst hb hu; exact h
    | succ o => simp at hb

theorem fzL_get : ∀ (l : List AVal) (i : Nat), (fzL l)[i]? = (l[i]?).map AVal.fz
  | [], i => by simp [fzL]
  | a :: l, i => by cases i <;> simp [fzL, fzL_get l]
theorem fzL_length : ∀ (l : List AVal), (fzL l).length = l.length
  | [] => rfl
  | a :: l => by simp [fzL, fzL_length l]

theorem zeroCell_fz {ρ : List Nat} {M : Mem} {a : AVal} {z : Value} (h : zeroCell a z = true) : V ρ M a.fz z := by
  have := (zeroCell_hold h).2 (fun _ => none) default ρ M (fun _ => .fly 0 [])
  exact Hold_opened (MLe.refl M) a z _ (fun g o c p hg => by cases hg) this

theorem replicate_flatten_get {α : Type} (l : List α) : ∀ (n k : Nat), k < n * l.length → (List.replicate n l).flatten[k]? = l[k % l.length]?
  | 0, k, h => by simp at h
  | n + 1, k, h => by
    rw [List.replicate_succ, List.flatten_cons, List.getElem?_append]
    split
    · rename_i hk; rw [Nat.mod_eq_of_lt hk]
    · rename_i hk
      rw [replicate_flatten_get l n (k - l.length) (by rw [Nat.succ_mul] at h; omega)]
      rw [← Nat.mod_eq_sub_mod (by omega)]

theorem flatten_len {α : Type} (z : Nat) : ∀ (l : List (List α)), (∀ r, r ∈ l → r.length = z) → l.flatten.length = l.length * z
  | [], _ => by simp
  | r :: l, h => by
    have := flatten_len z l (fun q hq => h q (by simp [hq]))
    have := h r (by simp)
    simp only [List.flatten_cons, List.length_append, List.length_cons, Nat.succ_mul]
    omega

theorem flatten_set (z : Nat) (r : List AVal) : ∀ (l : List (List AVal)) (i : Nat), (∀ r, r ∈ l → r.length = z) → r.length = z → i < l.length → (l.set i r).flatten = splice (i * z) r l.flatten
  | [], i, _, _, h => by simp at h
  | q :: l, 0, hw, hr, _ => by
    have := hw q (by simp)
    simp [splice_eq, hr, ← this]
  | q :: l, i + 1, hw, hr, h => by
    have hq := hw q (by simp)
    rw [List.set_cons_succ, List.flatten_cons, flatten_set z r l i (fun q hq => hw q (by simp [hq])) hr (by simpa using h), List.flatten_cons]
    rw [splice_eq, splice_eq]
    have e1 : (i + 1) * z = q.length + i * z := by rw [Nat.succ_mul, hq]; omega
    rw [e1, show q.length + i * z + r.length = q.length + (i * z + r.length) by omega, List.take_append, List.drop_append]
    simp [List.append_assoc, List.take_of_length_le, List.drop_of_length_le]

/-- The cells of the slice that mkSlice makes. -/
theorem mkSlice_ok (ρ : List Nat) (M : Mem) {sk : SK} {es : List (List AVal)} {v : AVal} (h : mkSlice sk es = some v) (hw : ∀ r, r ∈ es → r.length = sk.wid) :
    v.uniq = true ∧ v.wide ∧ v.num = es.length ∧ v.wid = sk.wid ∧ ∀ (i : Nat) (p : Value → Prop), (cellPs ρ M v)[i]? = some p → ∃ x, es.flatten[i]? = some x ∧ ∀ c, V ρ M x c → p c := by
  cases sk with
  | ints k =>
    simp only [mkSlice, Option.map_eq_some_iff] at h
    obtain ⟨l, hl, rfl⟩ := h
    have key : ∀ (es : List (List AVal)) (l : List Int), allInts k es = some l → l.length = es.length ∧ ∀ (i : Nat) n, l[i]? = some n → es.flatten[i]? = some (.int k n) := by
      intro es
      induction es with
      | nil => intro l h; simp [allInts] at h; subst h; exact ⟨rfl, fun i n h => by simp at h⟩
      | cons r es ih =>
        intro l h
        unfold allInts at h
        split at h
        · rename_i e; cases e
        · rename_i k' n l' e
          cases e
          split at h
          · rename_i hk
            have hk := of_decide_eq_true hk
            subst hk
            simp only [Option.map_eq_some_iff] at h
            obtain ⟨l', hl', rfl⟩ := h
            obtain ⟨h1, h2⟩ := ih l' hl'
            refine ⟨by simp [h1], fun i n hn => ?_⟩
            cases i with
            | zero => simp at hn; subst hn; simp
            | succ i => simp at hn; simpa using h2 i n hn
          · cases h
        · cases h
    obtain ⟨h1, h2⟩ := key es l hl
    refine ⟨rfl, trivial, h1, rfl, fun i p hp => ?_⟩
    simp only [cellPs, List.getElem?_map, Option.map_eq_some_iff] at hp
    obtain ⟨n, hn, rfl⟩ := hp
    exact ⟨_, h2 i n hn, fun c hc => by simpa only [V] using hc⟩
  | strs =>
    simp only [mkSlice, Option.map_eq_some_iff] at h
    obtain ⟨l, hl, rfl⟩ := h
    have key : ∀ (es : List (List AVal)) (l : List (List UInt8)), allStrs es = some l → l.length = es.length ∧ ∀ (i : Nat) n, l[i]? = some n → es.flatten[i]? = some (.str n) := by
      intro es
      induction es with
      | nil => intro l h; simp [allStrs] at h; subst h; exact ⟨rfl, fun i n h => by simp at h⟩
      | cons r es ih =>
        intro l h
        unfold allStrs at h
        split at h
        · rename_i e; cases e
        · rename_i n l' e
          cases e
          simp only [Option.map_eq_some_iff] at h
          obtain ⟨l', hl', rfl⟩ := h
          obtain ⟨h1, h2⟩ := ih l' hl'
          refine ⟨by simp [h1], fun i n hn => ?_⟩
          cases i with
          | zero => simp at hn; subst hn; simp
          | succ i => simp at hn; simpa using h2 i n hn
        · cases h
    obtain ⟨h1, h2⟩ := key es l hl
    refine ⟨rfl, trivial, h1, rfl, fun i p hp => ?_⟩
    simp only [cellPs, List.getElem?_map, Option.map_eq_some_iff] at hp
    obtain ⟨n, hn, rfl⟩ := hp
    exact ⟨_, h2 i n hn, fun c hc => by simpa only [V] using hc⟩
  | strs2 =>
    simp only [mkSlice, Option.map_eq_some_iff] at h
    obtain ⟨l, hl, rfl⟩ := h
    have key : ∀ (es : List (List AVal)) (l : List (List UInt8 × List UInt8)), allStrs2 es = some l → l.length = es.length ∧ es.flatten = l.flatMap fun p => [.str p.1, .str p.2] := by
      intro es
      induction es with
      | nil => intro l h; simp [allStrs2] at h; subst h; exact ⟨rfl, by simp⟩
      | cons r es ih =>
        intro l h
        unfold allStrs2 at h
        split at h
        · rename_i e; cases e
        · rename_i n m l' e
          cases e
          simp only [Option.map_eq_some_iff] at h
          obtain ⟨l', hl', rfl⟩ := h
          obtain ⟨h1, h2⟩ := ih l' hl'
          exact ⟨by simp [h1], by simp [h2]⟩
        · cases h
    obtain ⟨h1, h2⟩ := key es l hl
    refine ⟨rfl, trivial, h1, rfl, ?_⟩
    intro i p hp
    rw [h2]
    simp only [cellPs] at hp
    have e : (l.flatMap fun p => [fun c => c = strV p.1, fun c => c = strV p.2]) = (l.flatMap fun p => [AVal.str p.1, AVal.str p.2]).map fun x => (fun c => V ρ M x c) := by
      rw [List.map_flatMap]
      congr 1
    rw [e, List.getElem?_map, Option.map_eq_some_iff] at hp
    obtain ⟨x, hx, rfl⟩ := hp
    exact ⟨x, hx, fun c hc => hc⟩
  | rows z =>
    simp only [mkSlice] at h
    split at h
    · rename_i hall
      cases h
      refine ⟨rfl, hw, rfl, rfl, fun i p hp => ?_⟩
      simp only [cellPs, List.getElem?_map, Option.map_eq_some_iff] at hp
      obtain ⟨x, hx, rfl⟩ := hp
      exact ⟨x, hx, fun c hc => hc⟩
    · cases h

section
variable {P : Program} {cx : Cx} {B : Base} {o : Oper} {a : Act} {w : World} {s : S}

/-- Elements' cells, gathered. -/
noncomputable def Elems (ρ : List Nat) (M : Mem) (z : Nat) (es : List (List AVal)) (arr : Array Value) : Prop :=
  (∀ r, r ∈ es → r.length = z) ∧ arr.size = es.length * z ∧ ∀ (i : Nat) x c, es.flatten[i]? = some x → arr[i]? = some c → c.oneCell' = true ∧ V ρ M x c

theorem elems_ok (e z : Nat) (K : List (List AVal) → S → Option Res) (r : Res) : ∀ (parts : List (Nat × Operand)) (ms : List Nat) (s : S) (es : List (List AVal)) (arr : Array Value) (Own : Owner) (ρ : List Nat) (M : Mem), RS B s a.tmps w Own ρ M → Elems ρ M z es arr →
    elemsFill cx e z ms parts s es K = some r →
    ∃ es' s' arr' Own' M', K es' s' = some r ∧ Instr.fill (fun i => some (i * z, z)) arr (parts.map fun x => (x.1, a.eval x.2)) = some arr' ∧ RS B s' a.tmps w Own' ρ M' ∧ Elems ρ M' z es' arr' ∧ es'.length = es.length
  | [], ms, s, es, arr, Own, ρ, M, h, hg, hr => ⟨es, s, arr, Own, M, hr, rfl, h, hg, rfl⟩
  | (i, x) :: rest, ms, s, es, arr, Own, ρ, M, h, hg, hr => by
    unfold elemsFill at hr
    obtain ⟨v, s', Own', M', hK, hs', hfl, hM, hkeep⟩ := rd_okF h _ _ x _ r hr
    split at hK
    · rename_i hc
      simp only [Bool.and_eq_true] at hc
      obtain ⟨⟨⟨hst, hp⟩, hz⟩, hlt⟩ := hc
      have hz := Nat.eq_of_beq_eq_true hz
      have hlt : i < es.length := by simpa using hlt
      have hr0 : v.ref? = none := by cases v <;> simp_all [AVal.st, AVal.ref?]
      rw [SlotOK_plain hr0] at hfl
      have hV := V_of_Hold _ _ _ hp hfl
      obtain ⟨hsz, hone, hcell⟩ := V_cells hst hV
      have hle : (i + 1) * z ≤ es.length * z := Nat.mul_le_mul_right _ hlt
      rw [Nat.succ_mul] at hle
      have hfl' := flatten_len z es hg.1
      have hE : Elems ρ M' z (es.set i v.cells) (putArr arr (i * z) (a.eval x).cells.toList) := by
        refine ⟨fun r hr => ?_, by rw [putArr_size, List.length_set]; exact hg.2.1, fun k y c hy hc => ?_⟩
        · rcases List.mem_or_eq_of_mem_set hr with h | h
          · exact hg.1 r h
          · rw [h]; exact hz
        · rw [flatten_set z _ es i hg.1 hz hlt, splice_get _ _ _ _ (by rw [hfl']; omega)] at hy
          rw [putArr_get] at hc
          have hvl : (a.eval x).cells.toList.length = v.cells.length := by simpa using hsz
          rw [hvl] at hc
          by_cases hr : i * z ≤ k ∧ k < i * z + v.cells.length
          · rw [if_pos hr] at hy
            rw [if_pos ⟨hr.1, hr.2, by rw [hg.2.1]; omega⟩] at hc
            exact ⟨hone c (List.mem_of_getElem? hc), hcell _ y c hy (by simpa using hc)⟩
          · rw [if_neg hr] at hy
            rw [if_neg (by omega)] at hc
            obtain ⟨k1, k2⟩ := hg.2.2 k y c hy hc
            exact ⟨k1, V_mono (Ext.refl _) hM y c k2⟩
      obtain ⟨es', s2, arr', O3, M3, hK3, hfill, h3, hg3, hl3⟩ := elems_ok e z K r rest _ _ _ _ _ _ _ hs' hE hK
      refine ⟨es', s2, arr', O3, M3, hK3, ?_, h3, hg3, by rw [hl3]; simp⟩
      rw [List.map_cons]
      show Instr.fill _ arr ((i, a.eval x) :: _) = _
      rw [fill_step _ _ _ _ _ (off := i * z) (size := z) rfl (by omega) (by rw [hg.2.1]; omega)]
      exact hfill
    · cases hK

theorem made_get (z : Array Value) (n k : Nat) (h : k < n) : (madeCells z n)[k]? = some (z[k % z.size]!) := by
  simp [madeCells, h]

theorem elems_zero {P : Program} {t : Nat} {d : TD} (hT : TyOK P t d) (ρ : List Nat) (M : Mem) {z : Value} (hz : (P.info? t).bind (·.zero) = some z) (n m : Nat) (hnm : n ≤ m) :
    (∀ r, r ∈ List.replicate n (fzL d.zero) → r.length = d.size) ∧ ∀ (i : Nat) x c, (List.replicate n (fzL d.zero)).flatten[i]? = some x → (madeCells z.cells (m * d.size))[i]? = some c → c.oneCell' = true ∧ V ρ M x c := by
  obtain ⟨i, z', hi, hs, _, hz', hl, hl2, hc⟩ := hT.zero
  have : z' = z := by simpa [hi, hz'] using hz
  subst this
  have hw : ∀ r, r ∈ List.replicate n (fzL d.zero) → r.length = d.size := fun r hr => by rw [List.eq_of_mem_replicate hr, fzL_length]; exact hl2
  refine ⟨hw, fun k x c hx hcc => ?_⟩
  have hk : k < n * d.size := by
    have := (List.getElem?_eq_some_iff.1 hx).1
    rw [flatten_len d.size _ hw] at this
    simpa using this
  have hle : n * d.size ≤ m * d.size := Nat.mul_le_mul_right _ hnm
  rw [made_get _ _ _ (by omega)] at hcc
  rw [replicate_flatten_get _ _ _ (by rw [fzL_length, hl2]; exact hk), fzL_length, fzL_get] at hx
  have hpos : 0 < d.size := by rcases Nat.eq_zero_or_pos d.size with h | h; · rw [h] at hk; simp at hk
                               · exact h
  have hm : k % d.size < d.size := Nat.mod_lt _ hpos
  rw [hl2] at hx
  rw [hl, hl2] at hcc
  rw [Option.map_eq_some_iff] at hx
  obtain ⟨y, hy, rfl⟩ := hx
  have hget : z'.cells[k % d.size]? = some (z'.cells[k % d.size]!) := by
    rw [getElem!_pos z'.cells _ (by rw [hl, hl2]; exact hm)]
    exact Array.getElem?_eq_getElem _
  have hzc := hc _ y _ hy hget
  cases hcc
  exact ⟨(zeroCell_hold hzc).1, zeroCell_fz hzc⟩

theorem sk_wid {P : Program} {e : Nat} {sk : SK} (h : skOK P e sk) : (P.info? e).map (·.size) = some sk.wid := by
  cases sk <;> simp only [skOK] at h <;> first | exact h.2 | exact h

theorem step_buildSlice (hT : TysOK P cx) (h : RSx B s a.tmps w) (t : TypeId) (n : Nat) (parts : Array (Nat × Operand)) (hop : o.op = .buildSlice t n parts) (ms : List Nat) (K : KV) :
    StepOK P B o a w (match cx.ty.find t with
      | some d => match d.k with
        | .slice e sk => match cx.ty.find e with
          | some de => gd (decide (n * de.size ≤ 16777216)) (elemsFill cx e de.size ms parts.toList s (List.replicate n (fzL de.zero)) fun es s => match mkSlice sk es with
            | some v => K v s
            | none => none)
          | none => none
        | _ => none
      | none => none) K := by
  intro r hr
  split at hr
  · rename_i d hd
    split at hr
    · rename_i e sk hdk
      split at hr
      · rename_i de hde
        have hg := gd_some hr
        clear hr
        obtain ⟨hn, hr⟩ := hg
        have hn := of_decide_eq_true hn
        obtain ⟨Own, ρ, M, h⟩ := h
        obtain ⟨u, hu, hk⟩ := (hT t d hd).und
        rw [hdk] at hk
        obtain ⟨rfl, hsk⟩ := hk
        have hE := hT e de hde
        obtain ⟨i, z, hi, hs, _, hz, hl, hl2, hc⟩ := hE.zero
        have hwid := sk_wid hsk
        rw [hi] at hwid
        simp only [Option.map_some, Option.some.injEq] at hwid
        obtain ⟨z1, z2⟩ := elems_zero hE ρ M (z := z) (by simp [hi, hz]) n n (Nat.le_refl _)
        have hE0 : Elems ρ M de.size (List.replicate n (fzL de.zero)) (madeCells z.cells (n * de.size)) := ⟨z1, by simp [size_madeCells], z2⟩
        obtain ⟨es', s', arr', Own', M', hK, hfill, h', hE', hl'⟩ := elems_ok e de.size _ r parts.toList ms s _ _ Own ρ M h hE0 hr
        split at hK
        · rename_i v hv
          obtain ⟨v1, v2, v3, v4, v5⟩ := mkSlice_ok ρ M' hv (fun r hr => by rw [hE'.1 r hr, ← hwid, hs])
          have hlen : es'.length = n := by rw [hl']; simp
          have hrun : (execOp a.eval o).run P w = .ok (.value (.slice (some ⟨w.heap.size, 0, none⟩) n n)) { w with heap := w.heap.push (.cells arr' e (0, 0)) } := by
            have hsmall : ¬ n * i.size > 2 ^ 24 := by rw [hs]; omega
            have hmap : (parts.map fun (x : Nat × Operand) => (x.1, a.eval x.2)).toList = parts.toList.map fun x => (x.1, a.eval x.2) := by simp
            simp only [execOp, hop, Sem.run_bind]
            have key : (Instr.buildSlice t n (parts.map fun (x : Nat × Operand) => (x.1, a.eval x.2))).run P w = .ok (.slice (some ⟨w.heap.size, 0, none⟩) n n) { w with heap := w.heap.push (.cells arr' e (0, 0)) } := by
              by_cases hpos : n * i.size = 0
              · have hf' : Instr.fill (fun j => some (j * i.size, i.size)) #[] (parts.toList.map fun x => (x.1, a.eval x.2)) = some arr' := by
                  rw [hs]; rw [hs] at hpos
                  have : madeCells z.cells (n * de.size) = #[] := by rw [hpos]; simp [madeCells, Array.range_zero']
                  rw [this] at hfill; exact hfill
                simp [Instr.buildSlice, run_underlying hu, Go.sizeOf, typeInfo, hi, hsmall, hpos, Array.range_zero', hf', newRow, -run_newObj_alloc, -World.alloc_eq]
              · have := run_buildSlice (P := P) w t e n (parts.map fun (x : Nat × Operand) => (x.1, a.eval x.2)) arr' i z hu hi hz hsmall hpos (by rw [hmap, hs]; exact hfill)
                exact this
            rw [show (parts.map fun (x : Nat × Operand) => match x with | (i, x) => (i, a.eval x)) = parts.map fun x => (x.1, a.eval x.2) from rfl, key]
            rfl
          have hfl := flatten_len de.size es' hE'.1
          have hRF := h'.newRow v1 v2 (w' := { w with heap := w.heap.push (.cells arr' e (0, 0)) }) rfl rfl rfl rfl (.inl rfl) (cap := n) (by rw [v3, hlen]; exact Nat.le_refl _) (by rw [hE'.2.1, v4, ← hwid, hs, hlen]; exact Nat.le_refl _) (fun k p hp => by
            obtain ⟨x, hx, himp⟩ := v5 k p hp
            have hk : k < arr'.size := by have := (List.getElem?_eq_some_iff.1 hx).1; rw [hE'.2.1]; omega
            obtain ⟨k1, k2⟩ := hE'.2.2 k x _ hx (Array.getElem?_eq_getElem hk)
            exact ⟨_, Array.getElem?_eq_getElem hk, k1, himp _ k2⟩)
          rw [v3, hlen] at hRF
          exact ⟨v, s', hK, OpOK.of_run hrun hRF⟩
        · cases hK
      · cases hr
    · cases hr
  · cases hr

theorem step_makeSlice (hT : TysOK P cx) (h : RSx B s a.tmps w) (t : TypeId) (l c : Operand) (hop : o.op = .makeSlice t l c) (K : KV) :
    StepOK P B o a w (match cx.ty.find t with
      | some d => match d.k with
        | .slice e sk => match cx.ty.find e with
          | some de => match s.rdo none l with
            | .int _ n => match s.rdo none c with
              | .int _ n' => gd (decide (0 ≤ n ∧ n ≤ n' ∧ n' ≤ LIM)) (match mkSlice sk (List.replicate n.toNat (fzL de.zero)) with
                | some v => K v s
                | none => none)
              | _ => none
            | _ => none
          | none => none
        | _ => none
      | none => none) K := by
  intro r hr
  split at hr
  · rename_i d hd
    split at hr
    · rename_i e sk hdk
      split at hr
      · rename_i de hde
        split at hr
        · rename_i k n hln
          split at hr
          · rename_i k' n' hcn
            have hg := gd_some hr
            clear hr
            obtain ⟨hn, hr⟩ := hg
            have hn := of_decide_eq_true hn
            obtain ⟨h0, h1, h2⟩ := hn
            have el := rdo_int h hln
            have ec := rdo_int h hcn
            obtain ⟨Own, ρ, M, h⟩ := h
            obtain ⟨u, hu, hk⟩ := (hT t d hd).und
            rw [hdk] at hk
            obtain ⟨rfl, hsk⟩ := hk
            have hE := hT e de hde
            obtain ⟨i, z, hi, hs, hby, hz, hl, hl2, hc⟩ := hE.zero
            have hwid := sk_wid hsk
            rw [hi] at hwid
            simp only [Option.map_some, Option.some.injEq] at hwid
            obtain ⟨z1, z2⟩ := elems_zero hE ρ M (z := z) (by simp [hi, hz]) n.toNat n'.toNat (by omega)
            split at hr
            · rename_i v hv
              obtain ⟨v1, v2, v3, v4, v5⟩ := mkSlice_ok ρ M hv (fun r hr => by rw [z1 r hr, ← hwid, hs])
              simp only [List.length_replicate] at v3
              have hb : (i.bytes : Int) * n' ≤ 281474976710656 := by
                have : (i.bytes : Int) * n' ≤ 4096 * n' := Int.mul_le_mul_of_nonneg_right (by omega) (by omega)
                have h2' : n' ≤ 2147483648 := h2
                omega
              have h63 : n' ≤ 9223372036854775807 := by have h2' : n' ≤ 2147483648 := h2; omega
              have hm := run_make (P := P) w t e i z hu hi hz k k' n n' h0 h1 hb h63
              have hrun : (execOp a.eval o).run P w = .ok (.value (.slice (some ⟨w.heap.size, 0, none⟩) n.toNat n'.toNat)) (w.alloc (.cells (madeCells z.cells (n'.toNat * i.size)) e)) := by
                simp only [execOp, hop, el, ec, Sem.run_bind, hm]
                rfl
              have hle : n.toNat * de.size ≤ n'.toNat * de.size := Nat.mul_le_mul_right _ (by omega)
              have hRF := h.newRow v1 v2 (w' := w.alloc (.cells (madeCells z.cells (n'.toNat * i.size)) e)) rfl rfl rfl rfl (.inl rfl) (cap := n'.toNat) (by rw [v3]; omega) (by rw [size_madeCells, v4, hwid]; exact Nat.le_refl _) (fun q p hp => by
                obtain ⟨x, hx, himp⟩ := v5 q p hp
                have hq : q < (madeCells z.cells (n'.toNat * i.size)).size := by
                  have := (List.getElem?_eq_some_iff.1 hx).1
                  rw [flatten_len de.size _ z1] at this
                  simp only [List.length_replicate] at this
                  rw [size_madeCells, hs]; omega
                rw [hs] at hq
                obtain ⟨k1, k2⟩ := z2 q x _ hx (Array.getElem?_eq_getElem hq)
                rw [hs]
                exact ⟨_, Array.getElem?_eq_getElem hq, k1, himp _ k2⟩)
              rw [v3] at hRF
              exact ⟨v, s, hr, OpOK.of_run hrun hRF⟩
            · cases hr
          · cases hr
        · cases hr
      · cases hr
    · cases hr
  · cases hr

theorem step_bytes (hT : TysOK P cx) (h : RSx B s a.tmps w) (src t : TypeId) (x : Operand) (hop : o.op = .convert src t x) (ds d : TD) (hds : cx.ty.find src = some ds) (hd : cx.ty.find t = some d) {e : Nat} (hdk : d.k = .slice e (.ints .u8)) (K : KV) :
    StepOK P B o a w (match s.rdo none x with
      | .str l => gd (decide (l.length ≤ LIM)) (K (.ints true .u8 (l.map ofB)) s)
      | _ => none) K := by
  intro r hr
  split at hr
  · rename_i l hx
    have hg := gd_some hr
    clear hr
    obtain ⟨hn, hr⟩ := hg
    have ex := rdo_str h hx
    obtain ⟨us, hus, _⟩ := (hT src ds hds).und
    obtain ⟨u, hu, hk⟩ := (hT t d hd).und
    rw [hdk] at hk
    obtain ⟨rfl, he, _⟩ := hk
    obtain ⟨Own, ρ, M, h⟩ := h
    have hrun : (execOp a.eval o).run P w = .ok (.value (.slice (some ⟨w.heap.size, 0, none⟩) (⟨l.toArray⟩ : ByteArray).size (grownCap w (⟨l.toArray⟩ : ByteArray).size 0 e))) (Lib.bytesWorld w e ⟨l.toArray⟩) := by
      simp only [execOp, hop, ex, Sem.run_bind, strV, Lib.run_convert_string_bytes w src t e ⟨l.toArray⟩ hus hu he]
      rfl
    have hsz : (⟨l.toArray⟩ : ByteArray).size = l.length := strV_size l
    have hnew := Lib.bytesWorld_at_new w e ⟨l.toArray⟩
    have hheap : (Lib.bytesWorld w e ⟨l.toArray⟩).heap = w.heap.push (.cells (Lib.bytesCells w e ⟨l.toArray⟩) e ((Lib.bytesCells w e ⟨l.toArray⟩).size, (Lib.bytesCells w e ⟨l.toArray⟩).size + 1)) := by
      apply Array.ext_getElem?
      intro i
      rw [Array.getElem?_push]
      split
      · rename_i hi; rw [hi]; exact hnew
      · rename_i hi
        rcases Nat.lt_or_ge i w.heap.size with hlt | hge
        · exact Lib.bytesWorld_at_old w e _ i hlt
        · rw [Array.getElem?_eq_none (by rw [Lib.bytesWorld_size]; omega), Array.getElem?_eq_none (by omega)]
    have hge : l.length ≤ grownCap w l.length 0 e := grownCap_ge w _ _ _
    have hbs : (Lib.bytesCells w e ⟨l.toArray⟩).size = grownCap w l.length 0 e := by
      simp [Lib.bytesCells, hsz]; omega
    have hfz : ∀ (n : Nat), (w.drew.alloc (.cells (Lib.bytesCells w e ⟨l.toArray⟩) e)).freeze ⟨w.heap.size, n, none⟩ 1 = { (w.drew.alloc (.cells (Lib.bytesCells w e ⟨l.toArray⟩) e)) with heap := ((w.drew.alloc (.cells (Lib.bytesCells w e ⟨l.toArray⟩) e)).freeze ⟨w.heap.size, n, none⟩ 1).heap } := fun n => by simp [World.freeze]
    have hRF := h.newRow (v := .ints true .u8 (l.map ofB)) rfl trivial (w' := Lib.bytesWorld w e ⟨l.toArray⟩) hheap (by rw [Lib.bytesWorld, hfz]; rfl) (by rw [Lib.bytesWorld, hfz]; rfl) (by rw [Lib.bytesWorld, hfz]; rfl) (.inr (Nat.le_refl _))
      (cap := grownCap w l.length 0 e) (by simpa [AVal.num] using hge) (by rw [hbs]; simp [AVal.wid]) (fun i p hp => by
        simp only [cellPs, List.getElem?_map, Option.map_eq_some_iff] at hp
        obtain ⟨n, ⟨b, hb, rfl⟩, rfl⟩ := hp
        have hi : i < l.length := (List.getElem?_eq_some_iff.1 hb).1
        have := Lib.bytesWorld_cell w e ⟨l.toArray⟩ i (by omega)
        rw [cell_at hnew] at this
        refine ⟨_, this, rfl, ?_⟩
        simp [List.getD, hb, ofB])
    simp only [AVal.num, List.length_map] at hRF
    rw [hsz] at hrun
    exact ⟨_, s, hr, OpOK.of_run hrun hRF⟩
  · cases hr

end
end Go.Proofs.YtognccpmaljamaaGreatDoor.Sa

/- AS, part S11: loads and stores. -/
namespace Go.Proofs.YtognccpmaljamaaGreatDoor.Sa
open Go
variable [GlobMem]

section
variable {P : Program} {cx : Cx} {B : Base} {o : Oper} {a : Act} {w : World} {s : S}

theorem TyOK.one {P : Program} {t : Nat} {d : TD} (h : TyOK P t d) (hd : d.agg? = false) : d.size = 1 := by
  obtain ⟨i, z, _, _, _, _, _, hz⟩ := h.info
  rw [hd] at hz; exact hz.1

/-- Cells' values, taken together. -/
theorem cells_V {ρ : List Nat} {M : Mem} (d : TD) (h1 : d.agg? = false → d.size = 1) (xs : List AVal) (us : List Value) (hl : us.length = xs.length) (hx : xs.length = d.size)
    (h : ∀ (j : Nat) x u, xs[j]? = some x → us[j]? = some u → u.oneCell' = true ∧ V ρ M x u) : V ρ M (match d.agg? with | true => .agg xs | false => xs.headD .undef) (valOf d us) := by
  unfold valOf
  cases hd : d.agg? with
  | true =>
    simp only [V]
    refine ⟨us, rfl, (VL_iff _ _).2 ⟨hl.symm, fun j x u hx hu => (h j x u hx hu).2⟩, fun u hu => ?_⟩
    obtain ⟨j, hj⟩ := List.getElem?_of_mem hu
    have hjl : j < xs.length := by have := (List.getElem?_eq_some_iff.1 hj).1; omega
    exact (h j xs[j] u (List.getElem?_eq_getElem hjl) hj).1
  | false =>
    have := h1 hd
    cases xs with
    | nil => simp at hx; omega
    | cons x xs =>
      cases us with
      | nil => simp at hl
      | cons u us => exact (h 0 x u rfl rfl).2

theorem VC_cells {Own : Owner} {ρ : List Nat} {M : Mem} (hw : WI Own M w) (g : Nat) : ∀ (cs : List AVal) (off : Nat), VC ρ M g off cs → ∃ us : List Value, us.length = cs.length ∧ ∀ (j : Nat) u, us[j]? = some u → w.cell? ⟨g, off + j, none⟩ = some u ∧ u.oneCell' = true ∧ ∀ x, cs[j]? = some x → V ρ M x u
  | [], off, _ => ⟨[], rfl, fun j u h => by simp at h⟩
  | c :: cs, off, h => by
    simp only [VC] at h
    obtain ⟨⟨v, hv, hV⟩, h2⟩ := h
    obtain ⟨us, hl, hus⟩ := VC_cells hw g cs (off + 1) h2
    obtain ⟨k1, k2⟩ := hw.agree g off v hv
    refine ⟨v :: us, by simp [hl], fun j u hu => ?_⟩
    cases j with
    | zero => simp at hu; subst hu; exact ⟨k1, k2, fun x hx => by simp at hx; subst hx; exact hV⟩
    | succ j =>
      simp at hu
      obtain ⟨m1, m2, m3⟩ := hus j u hu
      exact ⟨by rw [show off + (j + 1) = off + 1 + j by omega]; exact m1, m2, fun x hx => m3 x (by simpa using hx)⟩

theorem row_cells {ρ : List Nat} {M : Mem} {ps : List (Value → Prop)} {g off z cap : Nat} (hr : RowAt w ps g off z cap) : ∀ (xs : List AVal) (i : Nat), (∀ (j : Nat) x, xs[j]? = some x → ∃ p, ps[i + j]? = some p ∧ ∀ c, p c → V ρ M x c) →
    ∃ us : List Value, us.length = xs.length ∧ ∀ (j : Nat) u, us[j]? = some u → w.cell? ⟨g, off + i + j, none⟩ = some u ∧ u.oneCell' = true ∧ ∀ x, xs[j]? = some x → V ρ M x u
  | [], i, _ => ⟨[], rfl, fun j u h => by simp at h⟩
  | x :: xs, i, h => by
    obtain ⟨us, hl, hus⟩ := row_cells hr xs (i + 1) (fun j x hx => by
      obtain ⟨p, hp, himp⟩ := h (j + 1) x (by simpa using hx)
      exact ⟨p, by rw [show i + 1 + j = i + (j + 1) by omega]; exact hp, himp⟩)
    obtain ⟨p, hp, himp⟩ := h 0 x rfl
    obtain ⟨arr, e, fz, ha, hf, hsz, hc⟩ := hr
    obtain ⟨c, hc, hc1, hpc⟩ := hc _ p hp
    refine ⟨c :: us, by simp [hl], fun j u hu => ?_⟩
    cases j with
    | zero =>
      simp at hu; subst hu
      refine ⟨by rw [cell_at ha]; simpa using hc, hc1, fun y hy => by simp at hy; subst hy; exact himp c hpc⟩
    | succ j =>
      simp at hu
      obtain ⟨m1, m2, m3⟩ := hus j u hu
      exact ⟨by rw [show off + i + (j + 1) = off + (i + 1) + j by omega]; exact m1, m2, fun x hx => m3 x (by simpa using hx)⟩

/-- A load that leaves the state. -/
theorem load_at {Own : Owner} {ρ : List Nat} {M : Mem} (hs : RS B s a.tmps w Own ρ M) {t : TypeId} {d : TD} (hT : TyOK P t d) (x : Operand) (hop : o.op = .load t x) {g off : Nat} (hx : a.eval x = .pointer (some ⟨g, off, none⟩)) (xs : List AVal) (hxl : xs.length = d.size)
    {us : List Value} (hl : us.length = xs.length) (hus : ∀ (j : Nat) u, us[j]? = some u → w.cell? ⟨g, off + j, none⟩ = some u ∧ u.oneCell' = true ∧ ∀ x, xs[j]? = some x → V ρ M x u)
    {v : AVal} (hv : v = (match d.agg? with | true => .agg xs | false => xs.headD .undef)) : OpOK P B o a w v s ∧ OpOK P B o a w v.lens s := by
  have hrun : (execOp a.eval o).run P w = .ok (.value (valOf d us)) w := by
    have := run_loadAt_cells (P := P) (w := w) hT g off us (by omega) (fun j u hu => (hus j u hu).1)
    simp [execOp, hop, hx, this]
  have hV : V ρ M v (valOf d us) := by
    rw [hv]
    exact cells_V d hT.one xs us hl hxl (fun j x u hx hu => let ⟨_, m2, m3⟩ := hus j u hu; ⟨m2, m3 x hx⟩)
  exact ⟨OpOK.of_run hrun (RF.of_V hs hV (V_ref hV)), OpOK.of_run hrun (RF.of_V hs (V_lens (Own := Own) (w := w) v _ (.fly 0) (Hold_of_V _ _ _ hV)) (lens_ref _))⟩

theorem loadC_take {d : TD} {cs : List AVal} {i : Nat} {v : AVal} (h : loadC d cs i = some v) (h1 : d.agg? = false → d.size = 1) :
    ((cs.drop i).take d.size).length = d.size ∧ v = (match d.agg? with | true => .agg ((cs.drop i).take d.size) | false => ((cs.drop i).take d.size).headD .undef) := by
  unfold loadC at h
  cases hd : d.agg? with
  | true =>
    simp only [hd, Option.map_eq_some_iff] at h
    obtain ⟨l, hl, rfl⟩ := h
    unfold sub at hl
    split at hl
    · rename_i hle
      have hle := Nat.le_of_ble_eq_true hle
      cases hl
      exact ⟨by simp; omega, rfl⟩
    · cases hl
  | false =>
    simp only [hd] at h
    have hs := h1 hd
    have hlt : i < cs.length := (List.getElem?_eq_some_iff.1 h).1
    refine ⟨by simp; omega, ?_⟩
    rw [hs]
    have e : cs.drop i = v :: cs.drop (i + 1) := by
      rw [List.drop_eq_getElem_cons hlt]
      congr 1
      exact (List.getElem?_eq_some_iff.1 h).2
    simp [e]

theorem fz_cells (v : AVal) : v.fz.cells.length = v.cells.length ∧ ∀ (j : Nat), v.fz.cells[j]? = (v.cells[j]?).map AVal.fz ∨ v.isAgg = false := by
  cases v <;> simp [AVal.fz, AVal.cells, AVal.isAgg, fzL_length, fzL_get]

theorem fz_cells1 (v : AVal) (h : v.isAgg = false) : v.fz.cells = [v.fz] := by cases v <;> simp_all [AVal.fz, AVal.cells, AVal.isAgg]

theorem step_load (hT : TysOK P cx) (h : RSx B s a.tmps w) (t : TypeId) (x : Operand) (hop : o.op = .load t x) (m : Nat) (K : KV) :
    StepOK P B o a w (match cx.ty.find t with
      | some d => loadA s d m (s.rdo none x) K
      | none => none) K := by
  intro r hr
  split at hr
  · rename_i d hd
    have hty := hT t d hd
    obtain ⟨Own, ρ, M, hs⟩ := h
    unfold loadA at hr
    split at hr
    · -- a variable's block
      rename_i b off hb
      have hv := rdo_pure hs none x (by rw [hb]; rfl)
      rw [hb] at hv
      simp only [V] at hv
      obtain ⟨g, hg, hv⟩ := hv
      split at hr
      · cases hr
      · cases hr
      · rename_i cs hne hcs
        split at hr
        · cases hr
        · rename_i v hl
          obtain ⟨g', us, hg', hul, hus, hH, hin, hag, hna, hgets⟩ := peek (hs.heap b cs hcs hne) hl hty.one
          rw [hg] at hg'; cases hg'
          have hrun : (execOp a.eval o).run P w = .ok (.value (valOf d us)) w := by
            have := run_loadAt_cells (P := P) (w := w) hty g off us hul hus
            simp [execOp, hop, hv, this]
          split at hr
          · split at hr
            · rename_i hp
              exact ⟨_, s, hr, OpOK.of_run hrun (RF.of_V hs (V_of_Hold _ _ _ hp hH) (pure_ref hp))⟩
            · cases hr
          · obtain ⟨O', h', hf⟩ := hs.getBlk hcs hne hH hin hna
            refine ⟨_, _, hr, OpOK.of_run hrun ⟨O', ρ, M, h', ?_⟩⟩
            cases hrf : v.ref? with
            | none => rw [SlotOK_plain hrf]; exact hf
            | some u => cases v <;> simp_all [AVal.ref?, Hold, AVal.uniq, V]
          · obtain ⟨O', h', hf⟩ := hs.getBlk hcs hne hH hin hna
            have hfs : SlotOK O' w ρ M { s with heap := s.heap.set b (splice off (List.replicate v.cells.length .undef) cs) }.env a.tmps (.fly 0) v (valOf d us) := by
              cases hrf : v.ref? with
              | none => rw [SlotOK_plain hrf]; exact hf
              | some u => cases v <;> simp_all [AVal.ref?, Hold, AVal.uniq, V]
            obtain ⟨O2, M2, h2, hv2, _, _⟩ := h'.opened 0 hfs
            have hbl : b < s.heap.length := (List.getElem?_eq_some_iff.1 hcs).1
            have hrl : off + (List.replicate v.cells.length AVal.undef).length ≤ cs.length := by simpa using hin
            have hfl := (fz_cells v).1
            have hput := h2.setPure (b := b) (o := off) (cs := splice off (List.replicate v.cells.length .undef) cs) (xs := v.fz.cells) (by simp [hbl]) (fun e => by have := splice_length _ _ _ hrl; rw [e] at this; cases cs <;> simp_all) (by rw [splice_length _ _ _ hrl, hfl]; exact hin) (fun G j y c hG hy hc => by
              rw [hg] at hG; cases hG
              have hj : j < v.cells.length := by have := (List.getElem?_eq_some_iff.1 hy).1; omega
              cases hva : v.isAgg with
              | true =>
                have hjd : j < us.length := by rw [hul, ← hag hva]; exact hj
                have := hus j us[j] (List.getElem?_eq_getElem hjd)
                rw [this] at hc; cases hc
                cases v <;> simp only [AVal.isAgg, Bool.false_eq_true, reduceCtorEq] at hva
                rename_i l
                simp only [AVal.fz, V] at hv2
                obtain ⟨vs, e, hl2, _⟩ := hv2
                have hda : d.agg? = true := by
                  cases hda : d.agg? with
                  | true => rfl
                  | false =>
                    exfalso
                    simp only [valOf, hda] at e
                    have h1 := hty.one hda
                    unfold loadC at hl
                    rw [hda] at hl
                    obtain ⟨_, arr, _, _, _, _, hsz, hc5⟩ := hs.heap b cs hcs hne
                    have hlt := (List.getElem?_eq_some_iff.1 hl).1
                    have := hc5 off _ _ hl (Array.getElem?_eq_getElem (by omega))
                    simp only [Hold] at this
                    obtain ⟨k1, vs', e', _⟩ := this
                    rw [e'] at k1; cases k1
                simp only [valOf, hda, Value.agg.injEq] at e
                have e : us = vs := by have := congrArg Array.toList e; simpa using this
                subst e
                rw [VL_iff] at hl2
                exact hl2.2 j y _ (by simpa [AVal.cells, AVal.fz] using hy) (List.getElem?_eq_getElem hjd)
              | false =>
                obtain ⟨hv1, hone⟩ := hna hva
                have ej : j = 0 := by omega
                subst ej
                have hfc : v.fz.cells = [v.fz] := fz_cells1 v hva
                rw [hfc] at hy
                simp at hy; subst hy
                cases hda : d.agg? with
                | true => exfalso; simp only [valOf, hda] at hone; cases hone
                | false =>
                  have hu1 := hty.one hda
                  cases us with
                  | nil => simp at hul; omega
                  | cons u us =>
                    have := hus 0 u rfl
                    rw [this] at hc; cases hc
                    simpa only [valOf, hda, List.headD] using hv2)
            have e1 : splice off v.fz.cells (splice off (List.replicate v.cells.length .undef) cs) = splice off v.fz.cells cs := by
              apply List.ext_getElem?
              intro i
              have hin2 : off + v.fz.cells.length ≤ cs.length := by rw [hfl]; exact hin
              rw [splice_get v.fz.cells (splice off (List.replicate v.cells.length .undef) cs) off i (by rw [splice_length _ _ _ hrl]; exact hin2), splice_get v.fz.cells cs off i hin2, splice_get _ cs off i hrl]
              simp only [List.length_replicate, hfl]
              split
              · rfl
              · rfl
            rw [e1] at hput
            simp only [List.set_set] at hput
            exact ⟨_, _, hr, OpOK.of_run hrun ⟨O2, ρ, M2, hput, by rw [SlotOK_plain (fz_ref _)]; exact Hold_of_V _ _ _ hv2⟩⟩
          · exact ⟨_, s, hr, OpOK.of_run hrun (RF.of_V hs (V_lens _ _ _ hH) (lens_ref _))⟩
    · -- a place that stays
      rename_i cs hb
      have hv := rdo_pure hs none x (by rw [hb]; rfl)
      rw [hb] at hv
      simp only [V] at hv
      obtain ⟨g, off, hv, hc⟩ := hv
      split at hr
      · rename_i v hl
        obtain ⟨us, hul, hus⟩ := VC_cells hs.wi g cs off hc
        obtain ⟨h1, h2⟩ := loadC_take hl hty.one
        simp only [List.drop_zero] at h1 h2
        have hsz : d.size ≤ cs.length := by simp at h1; omega
        obtain ⟨k1, k2⟩ := load_at (P := P) (o := o) hs hty x hop hv (cs.take d.size) h1 (us := us.take d.size) (by simp; omega) (fun j u hu => by
          rw [List.getElem?_take] at hu
          split at hu
          · rename_i hj
            obtain ⟨m1, m2, m3⟩ := hus j u hu
            exact ⟨m1, m2, fun y hy => m3 y (by rw [List.getElem?_take, if_pos hj] at hy; exact hy)⟩
          · cases hu) h2
        split at hr
        · exact ⟨_, s, hr, k2⟩
        · exact ⟨_, s, hr, k1⟩
      · cases hr
    · -- a cell of a slot's own slice
      rename_i u i hb
      obtain ⟨b, hb', hu', g, off, n, cap, ht, hv⟩ := rdo_eref hs hb
      rw [lget_of hb'] at hr
      have hU := slot_uniq hs hb' hu' ht
      obtain ⟨hwd, base, cap', hsl, hnc, hcase⟩ := hU
      cases hsl
      rcases hcase with ⟨e, _⟩ | ⟨g', o', he, ho, hrow⟩
      · cases e
      cases he
      have fin : ∀ (xs : List AVal) (v : AVal), xs.length = d.size → (∀ (j : Nat) x, xs[j]? = some x → ∃ p, (cellPs ρ M b)[i + j]? = some p ∧ ∀ c, p c → V ρ M x c) → v = (match d.agg? with | true => .agg xs | false => xs.headD .undef) →
          OpOK P B o a w v s ∧ OpOK P B o a w v.lens s := by
        intro xs v hxl hxs hvv
        obtain ⟨us, hul, hus⟩ := row_cells hrow xs i hxs
        exact load_at hs hty x hop hv xs hxl hul hus hvv
      split at hr
      · rename_i k l
        split at hr
        · rename_i y hy
          split at hr
          · cases hr
          · rename_i hda
            refine ⟨_, s, hr, (fin [.int k y] (.int k y) (by simp [hty.one hda]) (fun j z hz => ?_) (by simp [hda])).1⟩
            cases j with
            | zero => simp at hz; subst hz; exact ⟨_, by simp only [cellPs, Nat.add_zero, List.getElem?_map, hy]; rfl, fun c hc => by simpa only [V] using hc⟩
            | succ j => simp at hz
        · cases hr
      · rename_i l
        split at hr
        · rename_i y hy
          split at hr
          · cases hr
          · rename_i hda
            refine ⟨_, s, hr, (fin [.str y] (.str y) (by simp [hty.one hda]) (fun j z hz => ?_) (by simp [hda])).1⟩
            cases j with
            | zero => simp at hz; subst hz; exact ⟨_, by simp only [cellPs, Nat.add_zero, List.getElem?_map, hy]; rfl, fun c hc => by simpa only [V] using hc⟩
            | succ j => simp at hz
        · cases hr
      · rename_i l
        split at hr
        · rename_i y hy
          have hpair := flatMap2_get (fun (p : List UInt8 × List UInt8) (c : Value) => c = strV p.1) (fun p c => c = strV p.2) l (i / 2) y hy
          split at hr
          · rename_i hda
            split at hr
            · rename_i hc
              simp only [Bool.and_eq_true] at hc
              have h0 := Nat.eq_of_beq_eq_true hc.1
              have h2 := Nat.eq_of_beq_eq_true hc.2
              have hi : i = i / 2 * 2 := by omega
              refine ⟨_, s, hr, (fin [.str y.1, .str y.2] _ (by simp [h2]) (fun j z hz => ?_) (by simp [hda])).1⟩
              cases j with
              | zero =>
                simp at hz; subst hz
                exact ⟨_, by rw [Nat.add_zero, hi]; exact hpair.1, fun c hc => by simpa only [V] using hc⟩
              | succ j =>
                cases j with
                | zero =>
                  simp at hz; subst hz
                  exact ⟨_, by rw [hi]; exact hpair.2, fun c hc => by simpa only [V] using hc⟩
                | succ j => simp at hz
            · cases hr
          · rename_i hda
            split at hr
            · rename_i hc
              have h0 := Nat.eq_of_beq_eq_true hc
              have hi : i = i / 2 * 2 := by omega
              refine ⟨_, s, hr, (fin [.str y.1] _ (by simp [hty.one hda]) (fun j z hz => ?_) (by simp [hda])).1⟩
              cases j with
              | zero =>
                simp at hz; subst hz
                exact ⟨_, by rw [Nat.add_zero, hi]; exact hpair.1, fun c hc => by simpa only [V] using hc⟩
              | succ j => simp at hz
            · rename_i hc
              have h0 := Nat.ne_of_beq_eq_false hc
              have hi : i = i / 2 * 2 + 1 := by omega
              refine ⟨_, s, hr, (fin [.str y.2] _ (by simp [hty.one hda]) (fun j z hz => ?_) (by simp [hda])).1⟩
              cases j with
              | zero =>
                simp at hz; subst hz
                exact ⟨_, by rw [Nat.add_zero, hi]; exact hpair.2, fun c hc => by simpa only [V] using hc⟩
              | succ j => simp at hz
        · cases hr
      · rename_i z l
        split at hr
        · rename_i y hy
          split at hr
          · cases hr
          · rename_i hz0
            have hz0 : 0 < z := by simpa using hz0
            split at hr
            · rename_i v hl
              obtain ⟨h1, h2⟩ := loadC_take hl hty.one
              have hyz : y.length = z := hwd y (List.mem_of_getElem? hy)
              obtain ⟨k1, k2⟩ := fin _ v h1 (fun j q hq => by
                rw [List.getElem?_take] at hq
                split at hq
                · rename_i hj
                  rw [List.getElem?_drop] at hq
                  have hlt : i % z + j < z := by have := (List.getElem?_eq_some_iff.1 hq).1; omega
                  have hfl := flatten_get z l (i / z) (i % z + j) y hwd hy hlt
                  have hdm : i / z * z + (i % z + j) = i + j := by have := Nat.div_add_mod i z; rw [Nat.mul_comm] at this; omega
                  rw [hdm] at hfl
                  exact ⟨V ρ M q, by simp only [cellPs, List.getElem?_map, hfl, hq]; rfl, fun c hc => hc⟩
                · cases hq) h2
              split at hr
              · exact ⟨_, s, hr, k2⟩
              · exact ⟨_, s, hr, k1⟩
            · cases hr
        · cases hr
      · cases hr
    · cases hr
  · cases hr

theorem loadN_A {s : S} {d : TD} {m : Nat} {x : AVal} {K : KV} {r : Res} (h : loadN s d m x K = some r) : loadA s d m x K = some r ∨ ∃ b o k c cs n, x = .ptr b o ∧ d.k = .int k ∧ s.heap[b]? = some (c :: cs) ∧ (c :: cs)[o]? = some (.int k n) ∧ K (.int k n) s = some r := by
  unfold loadN at h
  split at h
  · rename_i b o
    split at h
    · rename_i k hk
      split at h
      · rename_i c cs hb
        split at h
        · rename_i n hn
          unfold intAt at hn
          split at hn
          · rename_i k2 n2 hcell
            split at hn
            · rename_i e2
              simp only [decide_eq_true_eq] at e2
              cases hn
              subst e2
              exact .inr ⟨b, o, _, c, cs, _, rfl, hk, hb, hcell, h⟩
            · cases hn
          · cases hn
        · cases h
      · cases h
    · exact .inl h
  · exact .inl h

/-- A load, a number's known to be one. -/
theorem loadN_0 {s : S} {d : TD} {m : Nat} {x : AVal} {K : KV} {r : Res} (h : loadN s d m x K = some r) : loadA s d m x K = some r ∨ loadA s d 0 x K = some r := by
  rcases loadN_A h with h | ⟨b, o, k, c, cs, n, rfl, hk, hb, hcell, h⟩
  · exact .inl h
  · right
    unfold loadA
    simp only [hb]
    have hl : loadC d (c :: cs) o = some (.int k n) := by
      unfold loadC TD.agg?
      rw [hk]
      exact hcell
    rw [hl]
    simpa [AVal.pure] using h

end
end Go.Proofs.YtognccpmaljamaaGreatDoor.Sa

/- AS, part S12: stores; append. -/
namespace Go.Proofs.YtognccpmaljamaaGreatDoor.Sa
open Go
variable [GlobMem]

section
variable {P : Program} {cx : Cx} {B : Base} {o : Oper} {a : Act} {w : World} {s : S}

/-- A store through the address of a cell of one's own slice. -/
theorem store_row {Own : Owner} {ρ : List Nat} {M : Mem} (hs : RS B s a.tmps w Own ρ M) {t : TypeId} {d : TD} (hT : TyOK P t d) (ad x : Operand) (hop : o.op = .store t ad x) {u i g off n cap : Nat} {b b' : AVal} (hb : s.env[u]? = some b) (hu : b.uniq = true)
    (ht : a.tmps[u]? = some (.slice (some ⟨g, off, none⟩) n cap)) (hx : a.eval ad = .pointer (some ⟨g, off + i, none⟩)) (hu' : b'.uniq = true) (hn : b'.num = b.num) (hw : b'.wid = b.wid) (hwd : b.wide → b'.wide) (hsz : (a.eval x).cells.size = d.size)
    (h1 : ∀ q ∈ (a.eval x).cells.toList, q.oneCell' = true) (hin : i + d.size ≤ b.num * b.wid)
    (hps : ∀ (j : Nat) (p : Value → Prop), (cellPs ρ M b')[j]? = some p → (i ≤ j ∧ j < i + d.size ∧ ∃ c, (a.eval x).cells.toList[j - i]? = some c ∧ p c) ∨ (¬ (i ≤ j ∧ j < i + d.size) ∧ ∃ p0, (cellPs ρ M b)[j]? = some p0 ∧ ∀ c, p0 c → p c)) :
    OpOK P B o a w .undef (s.raw u b') := by
  have hl : (a.eval x).cells.toList.length = d.size := by simpa using hsz
  obtain ⟨⟨arr, e, fz, hg, hf, hsize, hnum, hcap⟩, hset⟩ := hs.setRow (i := i) hb hu ht hu' hn hw hwd (a.eval x).cells.toList h1 (fun j p hp => by rw [hl]; exact hps j p hp)
  have hmul : b.num * b.wid ≤ cap * b.wid := Nat.mul_le_mul_right _ hcap
  have h2 := hset (fun arr' e' fz' hg' => by rw [hg] at hg'; cases hg'; omega)
  have hrun : (execOp a.eval o).run P w = .ok .skip (w.setCells g (off + i) (a.eval x).cells.toList) := by
    have := run_storeAt_cells (P := P) (w := w) hT g (off + i) (a.eval x) hsz h1 hg hf (by omega)
    simp [execOp, hop, hx, this]
  exact OpOK.of_skip hrun ⟨Own, ρ, M, h2, SlotOK_undef⟩

theorem step_store (hT : TysOK P cx) (h : RSx B s a.tmps w) (t : TypeId) (ad x : Operand) (hop : o.op = .store t ad x) (m : Nat) (K : KV) :
    StepOK P B o a w (match cx.ty.find t with
      | some d => s.rd (some d) m x fun v s => match v.st && Nat.beq v.cells.length d.size with
        | true => storeA s (s.rdo none ad) v fun s => K .undef s
        | false => none
      | none => none) K := by
  intro r hr
  split at hr
  · rename_i d hd
    have hty := hT t d hd
    obtain ⟨Own0, ρ, M0, hs0⟩ := h
    obtain ⟨v, s', Own, M, hK, hs, hf, _, _⟩ := rd_okF hs0 _ m x _ r hr
    clear hr
    split at hK
    · rename_i hc
      simp only [Bool.and_eq_true] at hc
      obtain ⟨hst, hz⟩ := hc
      replace hz := Nat.eq_of_beq_eq_true hz
      have hr0 : v.ref? = none := by cases v <;> simp_all [AVal.st, AVal.ref?]
      rw [SlotOK_plain hr0] at hf
      obtain ⟨hsz, hone, hcell⟩ := Hold_cells hst hf
      unfold storeA at hK
      split at hK
      · rename_i b off hb
        have hv := rdo_pure hs none ad (by rw [hb]; rfl)
        rw [hb] at hv
        simp only [V] at hv
        obtain ⟨g, hg, hv⟩ := hv
        split at hK
        · cases hK
        · cases hK
        · rename_i cs hne hcs
          split at hK
          · rename_i hle
            have hle := Nat.le_of_ble_eq_true hle
            obtain ⟨G, arr, e, h1, h2, h3, h4, h5⟩ := hs.heap b cs hcs hne
            rw [hg] at h1; cases h1
            have hrun : (execOp a.eval o).run P w = .ok .skip (w.setCells g off (a.eval x).cells.toList) := by
              have := run_storeAt_cells (P := P) (w := w) hty g off (a.eval x) (by omega) hone h3 (.inl rfl) (by omega)
              simp [execOp, hop, hv, this]
            obtain ⟨O', h'⟩ := hs.setBlk hcs hne hg hst hf hle
            exact ⟨_, _, hK, OpOK.of_skip hrun ⟨O', ρ, M, h', SlotOK_undef⟩⟩
          · cases hK
      · rename_i u i hb
        obtain ⟨b, hb', hu', g, off, n, cap, ht, hv⟩ := rdo_eref hs hb
        rw [lget_of hb'] at hK
        split at hK
        · rename_i k l
          split at hK
          · rename_i k' y
            split at hK
            · rename_i hkk
              have hkk := of_decide_eq_true hkk
              subst hkk
              have hg := gd_some hK
              clear hK
              obtain ⟨hi, hK⟩ := hg
              have hi := of_decide_eq_true hi
              have ev : a.eval x = .int k y := by simpa only [Hold, AVal.uniq, V] using hf
              have hz1 : d.size = 1 := by rw [← hz]; rfl
              refine ⟨_, _, hK, store_row hs hty ad x hop hb' hu' ht hv rfl (by simp [AVal.num]) rfl (fun h => trivial) (by omega) hone (by rw [hz1]; simp [AVal.num, AVal.wid]; omega) (fun j p hp => ?_)⟩
              simp only [cellPs, List.getElem?_map, List.getElem?_set, Option.map_eq_some_iff] at hp
              obtain ⟨q, hq, rfl⟩ := hp
              by_cases e : i = j
              · subst e
                left
                refine ⟨Nat.le_refl _, by omega, .int k y, by rw [ev]; simp [Value.cells], ?_⟩
                rw [if_pos rfl, if_pos hi] at hq
                cases hq; rfl
              · right
                rw [if_neg e] at hq
                exact ⟨by omega, _, by simp only [cellPs, List.getElem?_map, hq]; rfl, fun c hc => hc⟩
            · cases hK
          · cases hK
        · rename_i l
          split at hK
          · rename_i y
            have hg := gd_some hK
            clear hK
            obtain ⟨hi, hK⟩ := hg
            have hi := of_decide_eq_true hi
            have ev : a.eval x = strV y := by simpa only [Hold, AVal.uniq, V] using hf
            have hz1 : d.size = 1 := by rw [← hz]; rfl
            refine ⟨_, _, hK, store_row hs hty ad x hop hb' hu' ht hv rfl (by simp [AVal.num]) rfl (fun h => trivial) (by omega) hone (by rw [hz1]; simp [AVal.num, AVal.wid]; omega) (fun j p hp => ?_)⟩
            simp only [cellPs, List.getElem?_map, List.getElem?_set, Option.map_eq_some_iff] at hp
            obtain ⟨q, hq, rfl⟩ := hp
            by_cases e : i = j
            · subst e
              left
              refine ⟨Nat.le_refl _, by omega, strV y, by rw [ev]; simp [Value.cells], ?_⟩
              rw [if_pos rfl, if_pos hi] at hq
              cases hq; rfl
            · right
              rw [if_neg e] at hq
              exact ⟨by omega, _, by simp only [cellPs, List.getElem?_map, hq]; rfl, fun c hc => hc⟩
          · cases hK
        · rename_i l
          split at hK
          · rename_i p0 hp0
            have hil : i / 2 < l.length := (List.getElem?_eq_some_iff.1 hp0).1
            have fin : ∀ (q : List UInt8 × List UInt8), i + d.size ≤ i / 2 * 2 + 2 → K .undef (s'.raw u (.strs2 true (l.set (i / 2) q))) = some r →
                (∀ j, j < 2 → ∀ p, ([fun c => c = strV q.1, fun c => c = strV q.2] : List (Value → Prop))[j]? = some p → (i ≤ i / 2 * 2 + j ∧ i / 2 * 2 + j < i + d.size ∧ ∃ c, (a.eval x).cells.toList[i / 2 * 2 + j - i]? = some c ∧ p c) ∨ (¬ (i ≤ i / 2 * 2 + j ∧ i / 2 * 2 + j < i + d.size) ∧ ∃ p', ([fun c => c = strV p0.1, fun c => c = strV p0.2] : List (Value → Prop))[j]? = some p' ∧ ∀ c, p' c → p c)) →
                ∃ v s'', K v s'' = some r ∧ OpOK P B o a w v s'' := by
              intro q hq2 hK hj
              refine ⟨_, _, hK, store_row hs hty ad x hop hb' hu' ht hv rfl (by simp [AVal.num]) rfl (fun h => trivial) (by omega) hone (by simp [AVal.num, AVal.wid]; omega) (fun j p hp => ?_)⟩
              have hw1 : ∀ (l : List (List UInt8 × List UInt8)), ∀ r, r ∈ l.map (fun p => ([fun c => c = strV p.1, fun c => c = strV p.2] : List (Value → Prop))) → r.length = 2 := by
                intro l r hr; simp only [List.mem_map] at hr; obtain ⟨p, _, rfl⟩ := hr; rfl
              have hjlt : j < 2 * l.length := by
                have := (List.getElem?_eq_some_iff.1 hp).1
                simp only [cellPs, List.flatMap_def] at this
                rw [flatten_len 2 _ (hw1 _)] at this
                simp at this; omega
              have hjl : j / 2 < l.length := by omega
              have dm : j / 2 * 2 + j % 2 = j := by omega
              have hp' : (([fun c => c = strV ((l.set (i / 2) q)[j / 2]'(by simpa using hjl)).1, fun c => c = strV ((l.set (i / 2) q)[j / 2]'(by simpa using hjl)).2] : List (Value → Prop)))[j % 2]? = some p := by
                simp only [cellPs, List.flatMap_def] at hp
                rw [← flatten_get 2 _ (j / 2) (j % 2) _ (hw1 (l.set (i / 2) q)) (by rw [List.getElem?_map, List.getElem?_eq_getElem (by simpa using hjl)]; rfl) (by omega), dm]
                exact hp
              by_cases e : i / 2 = j / 2
              · have hget : (l.set (i / 2) q)[j / 2]'(by simpa using hjl) = q := by simp [← e]
                rw [hget] at hp'
                have := hj (j % 2) (by omega) p hp'
                rw [e, dm] at this
                rcases this with h | ⟨h1, p', hp1, himp⟩
                · exact .inl h
                · refine .inr ⟨h1, p', ?_, himp⟩
                  simp only [cellPs, List.flatMap_def]
                  rw [← dm, flatten_get 2 _ (j / 2) (j % 2) ([fun c => c = strV p0.1, fun c => c = strV p0.2]) (hw1 l) (by rw [← e, List.getElem?_map, hp0]; rfl) (by omega)]
                  exact hp1
              · have hget : (l.set (i / 2) q)[j / 2]'(by simpa using hjl) = l[j / 2] := by rw [List.getElem_set_ne e]
                rw [hget] at hp'
                refine .inr ⟨by omega, p, ?_, fun c h => h⟩
                simp only [cellPs, List.flatMap_def]
                rw [← dm, flatten_get 2 _ (j / 2) (j % 2) _ (hw1 l) (by rw [List.getElem?_map, List.getElem?_eq_getElem hjl]; rfl) (by omega)]
                exact hp'
            split at hK
            · rename_i y1 y2
              split at hK
              · rename_i hc
                have h0 := Nat.eq_of_beq_eq_true hc
                have hz1 : d.size = 2 := by rw [← hz]; rfl
                simp only [Hold, HoldL] at hf
                obtain ⟨vs, hvs, hl, _⟩ := hf
                have hvs2 : vs = [strV y1, strV y2] := by
                  cases vs with
                  | nil => simp [HoldL] at hl
                  | cons v1 vs => cases vs with
                    | nil => simp [HoldL] at hl
                    | cons v2 vs => cases vs with
                      | nil => simp only [HoldL, Hold, AVal.uniq, V] at hl; rw [hl.1, hl.2.1]
                      | cons v3 vs => simp [HoldL] at hl
                refine fin _ (by omega) hK (fun j hj p hp => .inl ⟨by omega, by omega, ?_⟩)
                rw [show i / 2 * 2 + j - i = j by omega, hvs, hvs2]
                match j, hj with
                | 0, _ => simp at hp; subst hp; exact ⟨_, rfl, rfl⟩
                | 1, _ => simp at hp; subst hp; exact ⟨_, rfl, rfl⟩
              · cases hK
            · rename_i y
              have ev : a.eval x = strV y := by simpa only [Hold, AVal.uniq, V] using hf
              have hz1 : d.size = 1 := by rw [← hz]; rfl
              split at hK
              · rename_i hc
                have h0 := Nat.eq_of_beq_eq_true hc
                refine fin _ (by omega) hK (fun j hj p hp => ?_)
                match j, hj with
                | 0, _ => simp at hp; subst hp; exact .inl ⟨by omega, by omega, strV y, by rw [ev, show i / 2 * 2 + 0 - i = 0 by omega]; rfl, rfl⟩
                | 1, _ => simp at hp; subst hp; exact .inr ⟨by omega, _, rfl, fun c h => h⟩
              · rename_i hc
                have h0 := Nat.ne_of_beq_eq_false hc
                refine fin _ (by omega) hK (fun j hj p hp => ?_)
                match j, hj with
                | 0, _ => simp at hp; subst hp; exact .inr ⟨by omega, _, rfl, fun c h => h⟩
                | 1, _ => simp at hp; subst hp; exact .inl ⟨by omega, by omega, strV y, by rw [ev, show i / 2 * 2 + 1 - i = 0 by omega]; rfl, rfl⟩
            · cases hK
          · cases hK
        · rename_i z l
          split at hK
          · rename_i cs hcs
            split at hK
            · rename_i hc
              simp only [Bool.and_eq_true] at hc
              obtain ⟨⟨hz0, hp⟩, hle⟩ := hc
              have hz0 : 0 < z := by simpa using hz0
              have hle := Nat.le_of_ble_eq_true hle
              have hil : i / z < l.length := (List.getElem?_eq_some_iff.1 hcs).1
              have hV := V_of_Hold _ _ _ hp hf
              obtain ⟨_, _, hVc⟩ := V_cells hst hV
              have hU := slot_uniq hs hb' hu' ht
              have hwide : ∀ r, r ∈ l → r.length = z := hU.1
              have hcz : cs.length = z := hwide cs (List.mem_of_getElem? hcs)
              have hspl : (splice (i % z) v.cells cs).length = z := by rw [splice_length _ _ _ hle]; exact hcz
              have hdm : i / z * z + i % z = i := by have := Nat.div_add_mod i z; rw [Nat.mul_comm] at this; exact this
              have hle2 : (i / z + 1) * z ≤ l.length * z := Nat.mul_le_mul_right _ hil
              rw [Nat.succ_mul] at hle2
              refine ⟨_, _, hK, store_row hs hty ad x hop hb' hu' ht hv rfl (by simp [AVal.num]) rfl (fun h => ?_) (by omega) hone (by simp only [AVal.num, AVal.wid]; omega) (fun j p hp => ?_)⟩
              · intro r hr
                rcases List.mem_or_eq_of_mem_set hr with h | h
                · exact hwide r h
                · rw [h]; exact hspl
              · simp only [cellPs, List.getElem?_map, Option.map_eq_some_iff] at hp
                obtain ⟨y, hy, rfl⟩ := hp
                have hfl := flatten_len z l hwide
                rw [flatten_set z _ l _ hwide hspl hil, splice_get _ _ _ _ (by rw [hspl, hfl]; omega), hspl] at hy
                by_cases hr : i / z * z ≤ j ∧ j < i / z * z + z
                · rw [if_pos hr, splice_get _ _ _ _ hle] at hy
                  by_cases hr2 : i % z ≤ j - i / z * z ∧ j - i / z * z < i % z + v.cells.length
                  · rw [if_pos hr2] at hy
                    left
                    refine ⟨by omega, by omega, ?_⟩
                    have hlt : j - i < (a.eval x).cells.size := by omega
                    refine ⟨_, by rw [Array.getElem?_toList]; exact Array.getElem?_eq_getElem hlt, hVc (j - i) y _ ?_ (Array.getElem?_eq_getElem hlt)⟩
                    rw [← hy]; congr 1; omega
                  · rw [if_neg hr2] at hy
                    right
                    refine ⟨by omega, V ρ M y, ?_, fun c h => h⟩
                    simp only [cellPs, List.getElem?_map]
                    have := flatten_get z l (i / z) (j - i / z * z) cs hwide hcs (by omega)
                    rw [show i / z * z + (j - i / z * z) = j by omega] at this
                    rw [this, hy]; rfl
                · rw [if_neg hr] at hy
                  right
                  refine ⟨by omega, V ρ M y, ?_, fun c h => h⟩
                  simp only [cellPs, List.getElem?_map, hy]; rfl
            · cases hK
          · cases hK
        · cases hK
      · cases hK
    · cases hK
  · cases hr

end
end Go.Proofs.YtognccpmaljamaaGreatDoor.Sa

/- AS, part S13: append. -/
namespace Go.Proofs.YtognccpmaljamaaGreatDoor.Sa
open Go
variable [GlobMem]

theorem cellPs_length (ρ : List Nat) (M : Mem) {b : AVal} (hsl : b.isSl = true) (hwd : b.wide) : (cellPs ρ M b).length = b.num * b.wid := by
  cases b with
  | ints u k l => simp [cellPs, AVal.num, AVal.wid]
  | strs u l => simp [cellPs, AVal.num, AVal.wid]
  | strs2 u l =>
    simp only [cellPs, List.flatMap_def]
    rw [flatten_len 2 _ (by intro r hr; simp only [List.mem_map] at hr; obtain ⟨p, _, rfl⟩ := hr; rfl)]
    simp [AVal.num, AVal.wid]
  | rows u z l => simp only [cellPs, List.length_map, AVal.num, AVal.wid]; exact flatten_len z l hwd
  | _ => cases hsl

/-- What comes behind. -/
noncomputable def tailPs (ρ : List Nat) (M : Mem) : AVal → List (Value → Prop)
  | .str m => m.map fun c x => x = .int .u8 (ofB c)
  | y => cellPs ρ M y

noncomputable def AVal.cnt : AVal → Nat
  | .str m => m.length
  | y => y.num

theorem appA_ok (ρ : List Nat) (M : Mem) {x y : AVal} {K : AVal → Option Res} {r : Res} (h : appA x y K = some r) :
    ∃ v, K v = some r ∧ x.uniq = true ∧ v.uniq = true ∧ v.num = x.num + y.cnt ∧ v.wid = x.wid ∧ x.num + y.cnt ≤ LIM ∧ cellPs ρ M v = cellPs ρ M x ++ tailPs ρ M y ∧
      ((y.isSl = true ∧ y.wid = x.wid ∧ (x.wide → y.wide → v.wide)) ∨ ∃ m, y = .str m ∧ x.wid = 1 ∧ v.wide) := by
  unfold appA at h
  split at h
  · rename_i k l u k' m
    split at h
    · rename_i hk
      have hk := of_decide_eq_true hk
      subst hk
      obtain ⟨hc, h⟩ := gd_some h
      exact ⟨_, h, rfl, rfl, by simp [AVal.num, AVal.cnt], rfl, by simpa [AVal.num, AVal.cnt] using hc, by simp [cellPs, tailPs], .inl ⟨rfl, rfl, fun _ _ => trivial⟩⟩
    · cases h
  · rename_i l m
    obtain ⟨hc, h⟩ := gd_some h
    refine ⟨_, h, rfl, rfl, by simp [AVal.num, AVal.cnt], rfl, by simpa [AVal.num, AVal.cnt] using hc, ?_, .inr ⟨m, rfl, rfl, trivial⟩⟩
    simp only [cellPs, tailPs, List.map_append, List.map_map]
    rfl
  · rename_i l u m
    obtain ⟨hc, h⟩ := gd_some h
    exact ⟨_, h, rfl, rfl, by simp [AVal.num, AVal.cnt], rfl, by simpa [AVal.num, AVal.cnt] using hc, by simp [cellPs, tailPs], .inl ⟨rfl, rfl, fun _ _ => trivial⟩⟩
  · rename_i l u m
    obtain ⟨hc, h⟩ := gd_some h
    exact ⟨_, h, rfl, rfl, by simp [AVal.num, AVal.cnt], rfl, by simpa [AVal.num, AVal.cnt] using hc, by simp [cellPs, tailPs], .inl ⟨rfl, rfl, fun _ _ => trivial⟩⟩
  · rename_i z l u z' m
    split at h
    · rename_i hk
      have hk := Nat.eq_of_beq_eq_true hk
      subst hk
      obtain ⟨hc, h⟩ := gd_some h
      refine ⟨_, h, rfl, rfl, by simp [AVal.num, AVal.cnt], rfl, by simpa [AVal.num, AVal.cnt] using hc, by simp [cellPs, tailPs], .inl ⟨rfl, rfl, fun h1 h2 r hr => ?_⟩⟩
      rcases List.mem_append.1 hr with hr | hr
      · exact h1 r hr
      · exact h2 r hr
    · cases h
  · cases h

section
variable {P : Program} {cx : Cx} {B : Base} {o : Oper} {a : Act} {w : World} {s : S}

theorem ps_list (w : World) (g : Nat) : ∀ (ps : List (Value → Prop)) (off : Nat), (∀ (i : Nat) p, ps[i]? = some p → ∃ c, w.cell? ⟨g, off + i, none⟩ = some c ∧ c.oneCell' = true ∧ p c) →
    ∃ us : List Value, us.length = ps.length ∧ ∀ (j : Nat) u, us[j]? = some u → w.cell? ⟨g, off + j, none⟩ = some u ∧ u.oneCell' = true ∧ ∀ p, ps[j]? = some p → p u
  | [], off, _ => ⟨[], rfl, fun j u h => by simp at h⟩
  | p :: ps, off, h => by
    obtain ⟨us, hl, hus⟩ := ps_list w g ps (off + 1) (fun i p hp => by
      have := h (i + 1) p (by simpa using hp)
      rwa [show off + (i + 1) = off + 1 + i by omega] at this)
    obtain ⟨c, h1, h2, h3⟩ := h 0 p rfl
    refine ⟨c :: us, by simp [hl], fun j u hu => ?_⟩
    cases j with
    | zero => simp at hu; subst hu; exact ⟨by simpa using h1, h2, fun q hq => by simp at hq; subst hq; exact h3⟩
    | succ j =>
      simp at hu
      obtain ⟨m1, m2, m3⟩ := hus j u hu
      exact ⟨by rw [show off + (j + 1) = off + 1 + j by omega]; exact m1, m2, fun q hq => m3 q (by simpa using hq)⟩

/-- What an append's second operand yields. -/
theorem src_ok {Own : Owner} {ρ : List Nat} {M : Mem} (hT : TysOK P cx) (hs : RS B s a.tmps w Own ρ M) {t : TypeId} {d : Option TD} (hd : d = cx.ty.find t) {y : Operand} (hf : fits d (s.der (s.rdo d y)) = true) {size : Nat}
    (hw : ((s.der (s.rdo d y)).isSl = true ∧ (s.der (s.rdo d y)).wid = size) ∨ ∃ m, s.der (s.rdo d y) = .str m ∧ size = 1) :
    ∃ news, Src P size t (a.eval y) (s.der (s.rdo d y)).cnt news w ∧ ∀ (j : Nat) p, (tailPs ρ M (s.der (s.rdo d y)))[j]? = some p → ∃ c, news[j]? = some c ∧ p c := by
  rcases hw with ⟨hsl, hwid⟩ | ⟨m, hm, rfl⟩
  · subst hd
    rcases fits_cases hT hf with ⟨l, hl, _⟩ | ⟨n, hn, _⟩ | ⟨_, hw0, e, i, hu, hi, hsz⟩
    · rw [hl] at hsl; cases hsl
    · rw [hn] at hsl; cases hsl
    obtain ⟨hwd, base, cap, hv, hnc, hcase⟩ := der_cells hs (d := cx.ty.find t) (x := y) hsl
    have hlen := cellPs_length ρ M hsl hwd
    have hcnt : (s.der (s.rdo (cx.ty.find t) y)).cnt = (s.der (s.rdo (cx.ty.find t) y)).num := by generalize s.der _ = q at *; cases q <;> simp_all [AVal.cnt, AVal.isSl]
    have htail : tailPs ρ M (s.der (s.rdo (cx.ty.find t) y)) = cellPs ρ M (s.der (s.rdo (cx.ty.find t) y)) := by generalize s.der _ = q at *; cases q <;> simp_all [tailPs, AVal.isSl]
    rw [hcnt, htail, hv]
    rcases hcase with hnil | ⟨g, off, rfl, hcell⟩
    · have h0 : (s.der (s.rdo (cx.ty.find t) y)).num = 0 := by
        rw [hnil] at hlen
        simp only [List.length_nil] at hlen
        rcases Nat.eq_zero_or_pos (s.der (s.rdo (cx.ty.find t) y)).num with h | h
        · exact h
        · have := Nat.mul_pos h hw0; omega
      rw [h0, hnil]
      cases base with
      | none => exact ⟨[], Src.ofNil w hu cap, fun j p hp => by simp at hp⟩
      | some ad => exact ⟨[], Src.ofSlice w hu ad 0 cap [] (by simp) (fun j u h => by simp at h) (fun u h => by cases h), fun j p hp => by simp at hp⟩
    · obtain ⟨us, hul, hus⟩ := ps_list w g _ off hcell
      refine ⟨us, Src.ofSlice w hu _ _ cap us (by rw [hul, hlen, hwid]) (fun j u hu => by rw [Addr.add_mid]; exact (hus j u hu).1) (fun u hu => ?_), fun j p hp => ?_⟩
      · obtain ⟨j, hj⟩ := List.getElem?_of_mem hu
        exact (hus j u hj).2.1
      · have hj : j < us.length := by have := (List.getElem?_eq_some_iff.1 hp).1; omega
        exact ⟨us[j], List.getElem?_eq_getElem hj, (hus j _ (List.getElem?_eq_getElem hj)).2.2 p hp⟩
  · subst hd
    have hx : s.rdo (cx.ty.find t) y = .str m := by
      cases hx : s.rdo (cx.ty.find t) y <;> rw [hx] at hm <;> simp only [S.der, reduceCtorEq] at hm
      · exact hm
      · rename_i u
        obtain ⟨b, hb, hu', _⟩ := rdo_sref hs hx
        rw [lget_of hb] at hm
        rw [hm] at hu'; cases hu'
    rw [hm] at hf ⊢
    rcases fits_cases hT hf with ⟨l, hl, hu⟩ | ⟨n, hn, _⟩ | ⟨h, _⟩
    · have hv := rdo_str ⟨Own, ρ, M, hs⟩ hx
      rw [hv]
      refine ⟨byteCells ⟨m.toArray⟩, ?_, fun j p hp => ?_⟩
      · have := Src.ofString (P := P) w hu ⟨m.toArray⟩
        rwa [strV_size] at this
      · simp only [tailPs, List.getElem?_map, Option.map_eq_some_iff] at hp
        obtain ⟨c, hc, rfl⟩ := hp
        exact ⟨.int .u8 (ofB c), by simp only [byteCells, List.getElem?_map, hc]; rfl, rfl⟩
    · cases hn
    · cases h

theorem elem_ty (hT : TysOK P cx) {t : Nat} (h : elemOK cx.ty t = true) : ∃ e de, P.underlying t = some (.slice e) ∧ TyOK P e de := by
  unfold elemOK at h
  split at h
  · rename_i d hd
    split at h
    · rename_i e sk hdk
      split at h
      · rename_i de hde
        obtain ⟨ut, hut, hk⟩ := (hT t d hd).und
        rw [hdk] at hk
        obtain ⟨rfl, _⟩ := hk
        exact ⟨e, de, hut, hT e de hde⟩
      · cases h
    · cases h
  · cases h

theorem Hold_of_U {Own : Owner} {ρ : List Nat} {M : Mem} {v : AVal} {u : Value} {ℓ : List Nat → Loc} (hv : v.uniq = true) (h : HoldU Own w ρ M (ℓ []) v u) : Hold Own w ρ M ℓ v u := by
  cases v <;> simp_all [AVal.uniq, Hold]

theorem zeroCells_size (z : Array Value) (n : Nat) : (Builtin.zeroCells z n).size = n * z.size := by simp [Builtin.zeroCells]

theorem step_append (hT : TysOK P cx) (h : RSx B s a.tmps w) (t u : TypeId) (x y : Operand) (c : Call) (hop : o.op = .call c) (hc : c.callee = .builtin .append) (ha : c.args.toList = [x, y]) (hts : c.argTypes.toList = [t, u]) (K : KV) :
    StepOK P B o a w (match elemOK cx.ty t && (fits (cx.ty.find t) (s.rdo (cx.ty.find t) x) && fits (cx.ty.find u) (s.der (s.rdo (cx.ty.find u) y))) with
      | true => appA (s.rdo (cx.ty.find t) x) (s.der (s.rdo (cx.ty.find u) y)) fun v => K v (s.drop x)
      | false => none) K := by
  intro r hr
  split at hr
  · rename_i hfits
    simp only [Bool.and_eq_true] at hfits
    obtain ⟨hel, hf1, hf2⟩ := hfits
    obtain ⟨Own, ρ, M, hs⟩ := h
    obtain ⟨v, hK, hxu, hvu, hvn, hvw, hlim, hps, hyc⟩ := appA_ok ρ M hr
    have hxsl := uniq_isSl hxu
    obtain ⟨e, i, hu, hi, hsz, hw0⟩ : ∃ e i, P.underlying t = some (.slice e) ∧ P.info? e = some i ∧ i.size = (s.rdo (cx.ty.find t) x).wid ∧ 0 < (s.rdo (cx.ty.find t) x).wid := by
      rcases fits_cases hT hf1 with ⟨l, hl, _⟩ | ⟨n, hn, _⟩ | ⟨_, hw0, e, i, hu, hi, hsz⟩
      · rw [hl] at hxsl; cases hxsl
      · rw [hn] at hxsl; cases hxsl
      · exact ⟨e, i, hu, hi, hsz, hw0⟩
    obtain ⟨e', de, hu', hE⟩ := elem_ty hT hel
    rw [hu] at hu'; cases hu'
    obtain ⟨i', z, hi', hzs, hby, hz, hzl, hzl2, _⟩ := hE.zero
    rw [hi] at hi'; cases hi'
    -- what is appended
    obtain ⟨news, hsrc, hnews⟩ := src_ok (P := P) (size := i.size) hT hs (d := cx.ty.find u) rfl (y := y) hf2 (by
      rcases hyc with ⟨h1, h2, _⟩ | ⟨m, h1, h2, _⟩
      · exact .inl ⟨h1, by rw [h2, hsz]⟩
      · exact .inr ⟨m, h1, by rw [hsz, h2]⟩)
    have hwdv : (s.rdo (cx.ty.find t) x).wide → v.wide := by
      intro hx
      rcases hyc with ⟨h1, h2, h3⟩ | ⟨m, _, _, h3⟩
      · exact h3 hx (der_cells hs (d := cx.ty.find u) (x := y) h1).1
      · exact h3
    -- what is appended to
    have hk := rdo_ok hs (cx.ty.find t) x
    have taken : ∃ Own', RS B (s.drop x) a.tmps w Own' ρ M ∧ HoldU Own' w ρ M (.fly 0 []) (s.rdo (cx.ty.find t) x) (a.eval x) := by
      cases x with
      | tmp t' =>
        rcases hk with ⟨k1, k2⟩ | k1
        · obtain ⟨O', h', hf'⟩ := hs.take k1 k2
          rw [SlotOK_plain (uniq_ref hxu)] at hf'
          exact ⟨O', h', Hold_uniq hxu hf'⟩
        · rw [k1] at hxu; cases hxu
      | const c => exact ⟨Own, hs, Hold_uniq hxu hk.1⟩
      | global g => exact ⟨Own, hs, Hold_uniq hxu hk.1⟩
      | func f => exact ⟨Own, hs, Hold_uniq hxu hk.1⟩
    obtain ⟨O', hs', hU⟩ := taken
    generalize hX : s.rdo (cx.ty.find t) x = X at *
    generalize hY : s.der (s.rdo (cx.ty.find u) y) = Y at *
    have hU0 := hU
    obtain ⟨hXw, base, cap, hv, hnc, hcase⟩ := hU
    have hargs : c.args.map a.eval = #[a.eval x, a.eval y] := by
      apply Array.ext'
      rw [Array.toList_map, ha]; rfl
    have htys : c.argTypes = #[t, u] := by
      apply Array.ext'
      rw [hts]
    have hxl := cellPs_length ρ M hxsl hXw
    have hnl : news.length = Y.cnt * X.wid := by rw [hsrc.newsLen, hsz]
    have runOf : ∀ (v' : Value) (w' : World), (Builtin.append_ #[t, u] o.type #[a.eval x, a.eval y]).run P w = .ok v' w' → (execOp a.eval o).run P w = .ok (.value v') w' := by
      intro v' w' hh
      simp only [execOp, hop, resolve, hc, Sem.run_bind, Sem.run_pure, Result.andThen_ok, invoke, builtin, hargs, htys, hh]
    by_cases hroom : X.num + Y.cnt ≤ cap
    · rcases hcase with ⟨hb, hcap⟩ | ⟨g, off, hb, hrest⟩
      · -- nothing onto nil
        have hy0 : Y.cnt = 0 := by omega
        have hx0 : X.num = 0 := by omega
        have hn0 : news = [] := by apply List.eq_nil_of_length_eq_zero; rw [hnl, hy0, Nat.zero_mul]
        rw [hy0] at hsrc
        rw [hn0] at hsrc
        have hrun := run_append_nothing (P := P) w t u o.type e i hu hi base X.num cap hnc (a.eval y) hsrc
        rw [← hv] at hrun
        refine ⟨_, _, hK, OpOK.of_run (runOf _ _ hrun) ⟨O', ρ, M, hs', ?_⟩⟩
        rw [SlotOK_plain (uniq_ref hvu), hv]
        refine Hold_of_U hvu ⟨hwdv hXw, base, cap, by rw [hvn, hy0]; rfl, by rw [hvn]; omega, .inl ⟨hb, hcap⟩⟩
      · subst hb
        rw [hv] at hU0
        obtain ⟨_, ⟨arr, ee, fz, hg, hfz, hsize⟩, hRF⟩ := hs'.growRow hU0 hvu hwdv hvn hvw hroom news hsrc.one hnl _ hps hxl hnews
        have hle : (X.num + Y.cnt) * X.wid ≤ cap * X.wid := Nat.mul_le_mul_right _ hroom
        rw [Nat.add_mul] at hle
        have hrun := run_append_room_src (P := P) w t u o.type e i hu hi g off X.num cap (a.eval y) Y.cnt news hsrc hroom
          (fun j hj => by rw [cell_at hg, Array.getElem?_eq_getElem (by rw [hsz]; omega)]; rfl) (fun j hj => frozen_at hg hfz (by rw [hsz]; omega))
        rw [← hv, hsz] at hrun
        exact ⟨_, _, hK, OpOK.of_run (runOf _ _ hrun) hRF⟩
    · have hg : cap < X.num + Y.cnt := by omega
      obtain ⟨olds, hol, hold, holdc⟩ : ∃ olds : List Value, olds.length = X.num * X.wid ∧ (Builtin.firstCells i.size X.num (.slice base X.num cap)).run P w.drew = .ok olds.toArray w.drew ∧ ∀ (j : Nat) p, (cellPs ρ M X)[j]? = some p → ∃ c, olds[j]? = some c ∧ c.oneCell' = true ∧ p c := by
        rcases hcase with ⟨hb, hcap⟩ | ⟨g, off, hb, ho, arr, ee, fz, hga, hfz, hsize, hcc⟩
        · have hx0 : X.num = 0 := by omega
          subst hb
          refine ⟨[], by rw [hx0]; simp, run_firstCells_none _ _ _ _ _, fun j p hp => ?_⟩
          have := (List.getElem?_eq_some_iff.1 hp).1
          rw [hxl, hx0] at this; omega
        · subst hb
          obtain ⟨us, hul, hus⟩ := ps_list w g (cellPs ρ M X) off (fun j p hp => by
            obtain ⟨c, h1, h2, h3⟩ := hcc j p hp
            exact ⟨c, by rw [cell_at hga]; exact h1, h2, h3⟩)
          refine ⟨us, by rw [hul, hxl], run_firstCells_some w.drew i.size X.num _ X.num cap us (by rw [hul, hxl, hsz]) (fun j q hq => by rw [Addr.add_mid]; exact (hus j q hq).1), fun j p hp => ?_⟩
          have hj : j < us.length := by have := (List.getElem?_eq_some_iff.1 hp).1; omega
          obtain ⟨_, m2, m3⟩ := hus j _ (List.getElem?_eq_getElem hj)
          exact ⟨us[j], List.getElem?_eq_getElem hj, m2, m3 p hp⟩
      have hlim' : X.num + Y.cnt ≤ 2147483648 := hlim
      have hbytes : (X.num + Y.cnt) * i.bytes ≤ 140737488355328 := by
        have := Nat.mul_le_mul hlim' hby
        omega
      have hrun := run_append_grow_src (P := P) w t u o.type e i z hu hi hz base X.num cap olds hold (a.eval y) Y.cnt news hsrc hg (by omega) (growslice_fits hg hbytes)
      rw [← hv] at hrun
      have hge := grownCap_ge w (X.num + Y.cnt) cap e
      have harr : ((olds ++ news).toArray ++ Builtin.zeroCells z.cells (grownCap w (X.num + Y.cnt) cap e - (X.num + Y.cnt))).size = grownCap w (X.num + Y.cnt) cap e * X.wid := by
        rw [Array.size_append, List.size_toArray, List.length_append, hol, hnl, zeroCells_size, hzl, hzl2, ← hzs, hsz, ← Nat.add_mul, ← Nat.add_mul]
        congr 1; omega
      have hRF := hs'.newRow hvu (hwdv hXw) (w' := w.drew.alloc (.cells ((olds ++ news).toArray ++ Builtin.zeroCells z.cells (grownCap w (X.num + Y.cnt) cap e - (X.num + Y.cnt))) e)) rfl rfl rfl rfl (.inl rfl)
        (cap := grownCap w (X.num + Y.cnt) cap e) (by rw [hvn]; exact hge) (by rw [harr, hvw]; exact Nat.le_refl _) (fun j p hp => by
          rw [hps, List.getElem?_append] at hp
          split at hp
          · rename_i hlt
            obtain ⟨c, h1, h2, h3⟩ := holdc j p hp
            have hj := (List.getElem?_eq_some_iff.1 h1).1
            refine ⟨c, ?_, h2, h3⟩
            rw [Array.getElem?_append, if_pos (by simp; omega), List.getElem?_toArray, List.getElem?_append_left hj]; exact h1
          · rename_i hge'
            obtain ⟨c, h1, h3⟩ := hnews _ p hp
            have hj := (List.getElem?_eq_some_iff.1 h1).1
            refine ⟨c, ?_, hsrc.one c (List.mem_of_getElem? h1), h3⟩
            have el : (cellPs ρ M X).length = olds.length := by rw [hxl, hol]
            rw [Array.getElem?_append, if_pos (by simp; omega), List.getElem?_toArray, List.getElem?_append_right (by omega), ← el]; exact h1)
      rw [hvn] at hRF
      exact ⟨_, _, hK, OpOK.of_run (runOf _ _ hrun) hRF⟩
  · cases hr

end
end Go.Proofs.YtognccpmaljamaaGreatDoor.Sa

/- AS, part S14: comparisons; one operation, whichever. -/
namespace Go.Proofs.YtognccpmaljamaaGreatDoor.Sa
open Go
variable [GlobMem]

/-- What is asked of the types whose values are compared. -/
noncomputable def EqOK (P : Program) (cx : Cx) : Prop := (∀ t, t ∈ cx.eqs → P.eqGuardType P.depth t = false ∧ P.stoodInHeld t = false) ∧ GlobOK cx

theorem eqCells_length : ∀ (ks : List CK) (as bs : List AVal) (r : Bool), eqCells ks as bs = some r → as.length = ks.length ∧ bs.length = ks.length
  | [], [], [], _, _ => ⟨rfl, rfl⟩
  | k :: ks, a :: as, b :: bs, r, h => by
    simp only [eqCells] at h
    split at h
    · split at h
      · rename_i q2 hq2
        obtain ⟨h1, h2⟩ := eqCells_length ks as bs q2 hq2
        simp [h1, h2]
      · cases h
    · cases h
  | [], [], _ :: _, _, h => by simp [eqCells] at h
  | [], _ :: _, _, _, h => by simp [eqCells] at h
  | _ :: _, [], _, _, h => by simp [eqCells] at h
  | _ :: _, _ :: _, [], _, h => by simp [eqCells] at h

theorem eqCells_split : ∀ (ks ls : List CK) (as bs : List AVal) (r : Bool), eqCells (ks ++ ls) as bs = some r →
    ∃ a a' b b' r1 r2, as = a ++ a' ∧ bs = b ++ b' ∧ eqCells ks a b = some r1 ∧ eqCells ls a' b' = some r2 ∧ r = (r1 && r2)
  | [], ls, as, bs, r, h => ⟨[], as, [], bs, true, r, rfl, rfl, rfl, h, by simp⟩
  | k :: ks, ls, x :: as, y :: bs, r, h => by
    simp only [List.cons_append, eqCells] at h
    split at h
    · rename_i q hq
      split at h
      · rename_i q2 hq2
        cases h
        obtain ⟨a, a', b, b', r1, r2, rfl, rfl, h1, h2, rfl⟩ := eqCells_split ks ls as bs q2 hq2
        exact ⟨x :: a, a', y :: b, b', q && r1, r2, rfl, rfl, by simp [eqCells, hq, h1], h2, by rw [Bool.and_assoc]⟩
      · cases h
    · cases h
  | _ :: _, _, [], _, _, h => by simp [eqCells] at h
  | _ :: _, _, _ :: _, [], _, h => by simp [eqCells] at h

section
variable {P : Program} {cx : Cx} {ρ : List Nat} {M : Mem}

/-- A part of a row of cells is told of by xs. -/
noncomputable def PartOK (ρ : List Nat) (M : Mem) (xs : Array Value) (o : Nat) (as : List AVal) : Prop := o + as.length ≤ xs.size ∧ ∀ (j : Nat) a u, as[j]? = some a → xs[o + j]? = some u → V ρ M a u

theorem PartOK.left {xs : Array Value} {o : Nat} {as bs : List AVal} (h : PartOK ρ M xs o (as ++ bs)) : PartOK ρ M xs o as :=
  ⟨by have := h.1; simp at this; omega, fun j a u ha hu => h.2 j a u (by rw [List.getElem?_append_left (List.getElem?_eq_some_iff.1 ha).1]; exact ha) hu⟩
theorem PartOK.right {xs : Array Value} {o : Nat} {as bs : List AVal} (h : PartOK ρ M xs o (as ++ bs)) : PartOK ρ M xs (o + as.length) bs :=
  ⟨by have := h.1; simp at this; omega, fun j a u ha hu => h.2 (as.length + j) a u (by rw [List.getElem?_append_right (by omega)]; simpa using ha) (by rwa [show o + (as.length + j) = o + as.length + j by omega])⟩

theorem PartOK.extract {xs : Array Value} {o n : Nat} {as : List AVal} (h : PartOK ρ M xs o as) (hn : as.length = n) : PartOK ρ M (xs.extract o (o + n)) 0 as := by
  have := h.1
  refine ⟨by simp; omega, fun j a u ha hu => h.2 j a u ha ?_⟩
  have hj := (List.getElem?_eq_some_iff.1 ha).1
  rw [Nat.zero_add, Array.getElem?_extract] at hu
  split at hu
  · exact hu
  · cases hu

/-- What it is for a type's values to be compared cell by cell. -/
noncomputable def EqsOK (P : Program) (ρ : List Nat) (M : Mem) (n t : Nat) (ks : List CK) : Prop := ∀ (w : World) (d : Nat), n ≤ d → ∀ (xs ys : Array Value) (o o' : Nat) (as bs : List AVal) (r : Bool),
  PartOK ρ M xs o as → PartOK ρ M ys o' bs → eqCells ks as bs = some r →
  ∃ p q, (part t xs o).run P w = .ok p w ∧ (part t ys o').run P w = .ok q w ∧ (Op.equalIn d t p q).run P w = .ok r w

theorem eqFields_ok {n : Nat} (f : Nat → Option (List CK)) (hf : ∀ t ks, f t = some ks → EqsOK P ρ M n t ks) (w : World) (d : Nat) (hd : n ≤ d) (xs ys : Array Value) : ∀ (fs : List (Nat × Nat × Nat)) (F : List Go.Field) (k : Nat) (ks : List CK) (as bs : List AVal) (r : Bool), tiles f fs k = some ks →
    F.length = fs.length → (∀ (i : Nat) (x : Nat × Nat × Nat), fs[i]? = some x → ∃ g : Go.Field, F[i]? = some g ∧ g.offset = x.1 ∧ g.type = x.2.2 ∧ g.name ≠ "_" ∧ (P.info? g.type).map (·.size) = some x.2.1) →
    PartOK ρ M xs k as → PartOK ρ M ys k bs → eqCells ks as bs = some r → (Op.eqFields d xs ys F).run P w = .ok r w
  | [], [], k, ks, as, bs, r, ht, _, _, _, _, he => by
    simp only [tiles, Option.some.injEq] at ht
    subst ht
    cases as with
    | nil => cases bs with
      | nil => simp only [eqCells, Option.some.injEq] at he; subst he; simp [Op.eqFields]
      | cons b bs => simp [eqCells] at he
    | cons a as => simp [eqCells] at he
  | (o, z, t) :: fs, g :: F, k, ks, as, bs, r, ht, hl, hF, hpa, hpb, he => by
    unfold tiles at ht
    split at ht
    · rename_i ho
      have ho := Nat.eq_of_beq_eq_true ho
      split at ht
      · rename_i l hz'
        split at ht
        · rename_i hzz
          have hzz := Nat.eq_of_beq_eq_true hzz
          split at ht
          · rename_i m hm
            cases ht
            subst ho
            obtain ⟨g', hg, hgo, hgt, hgn, hgs⟩ := hF 0 _ rfl
            simp at hg; subst hg
            dsimp only at hgo hgt hgs
            obtain ⟨a, a', b, b', r1, r2, rfl, rfl, h1, h2, rfl⟩ := eqCells_split _ _ _ _ _ he
            obtain ⟨la, lb⟩ := eqCells_length _ _ _ _ h1
            obtain ⟨p, q, hp, hq, hpq⟩ := hf t l hz' w d hd xs ys o o _ _ r1 hpa.left hpb.left h1
            have hr1 := hpa.right
            have hr2 := hpb.right
            rw [la, ← hzz] at hr1
            rw [lb, ← hzz] at hr2
            have ih := eqFields_ok f hf w d hd xs ys fs F (o + z) m a' b' r2 hm (by simpa using hl) (fun i x hx => by simpa using hF (i + 1) x (by simpa using hx)) hr1 hr2 h2
            rw [← hgt, ← hgo] at hp hq
            rw [← hgt] at hpq
            simp only [Op.eqFields, hgn, ne_eq, not_false_eq_true, if_true, Sem.run_bind, hp, hq, hpq, Result.andThen_ok]
            cases r1 with
            | true => simpa using ih
            | false => simp
          · cases ht
        · cases ht
      · cases ht
    · cases ht
  | [], _ :: _, _, _, _, _, _, _, hl, _, _, _, _ => by simp at hl
  | _ :: _, [], _, _, _, _, _, _, hl, _, _, _, _ => by simp at hl

theorem eqElems_ok {n e z : Nat} {l : List CK} (hf : EqsOK P ρ M n e l) (hz : l.length = z) (w : World) (d : Nat) (hd : n ≤ d) (xs ys : Array Value) : ∀ (m k : Nat) (as bs : List AVal) (r : Bool),
    PartOK ρ M xs (k * z) as → PartOK ρ M ys (k * z) bs → eqCells (times l m) as bs = some r →
    (forIn (List.range' k m) (none, ⟨⟩) (fun i (_ : Option Bool × PUnit) => (do
        let x ← part e xs (i * z)
        let y ← part e ys (i * z)
        let q ← Op.equalIn d e x y
        if (!q) = true then pure (ForInStep.done (some false, ⟨⟩)) else pure (ForInStep.yield (none, ⟨⟩)) : Sem (ForInStep (Option Bool × PUnit))))).run P w = .ok (if r then (none, ⟨⟩) else (some false, ⟨⟩)) w
  | 0, k, as, bs, r, _, _, he => by
    simp only [times] at he
    cases as with
    | nil => cases bs with
      | nil => simp only [eqCells, Option.some.injEq] at he; subst he; simp
      | cons b bs => simp [eqCells] at he
    | cons a as => simp [eqCells] at he
  | m + 1, k, as, bs, r, hpa, hpb, he => by
    simp only [times] at he
    obtain ⟨a, a', b, b', r1, r2, rfl, rfl, h1, h2, rfl⟩ := eqCells_split _ _ _ _ _ he
    obtain ⟨la, lb⟩ := eqCells_length _ _ _ _ h1
    obtain ⟨p, q, hp, hq, hpq⟩ := hf w d hd xs ys _ _ _ _ r1 hpa.left hpb.left h1
    have hr1 := hpa.right
    have hr2 := hpb.right
    rw [la, hz, ← Nat.succ_mul] at hr1
    rw [lb, hz, ← Nat.succ_mul] at hr2
    have ih := eqElems_ok hf hz w d hd xs ys m (k + 1) a' b' r2 hr1 hr2 h2
    simp only [List.range'_succ, List.forIn_cons, Sem.run_bind, hp, hq, hpq, Result.andThen_ok]
    cases r1 with
    | true => simpa using ih
    | false => simp

theorem eqs_ok (hT : TysOK P cx) (hE : EqOK P cx) : ∀ (n t : Nat) (ks : List CK), plainT cx n t = some ks → EqsOK P ρ M n t ks
  | 0, t, ks, h => by simp [plainT] at h
  | n + 1, t, ks, h => by
    unfold plainT at h
    split at h
    · rename_i dd hdd
      have hty := hT t dd hdd
      obtain ⟨u, hu, hk⟩ := hty.und
      have one : ∀ (k : CK) (xs ys : Array Value) (o o' : Nat) (as bs : List AVal) (r : Bool), dd.agg? = false → eqCells [k] as bs = some r → PartOK ρ M xs o as → PartOK ρ M ys o' bs →
          ∃ a b v u, eqCell k a b = some r ∧ V ρ M a v ∧ V ρ M b u ∧ ∀ w, (part t xs o).run P w = .ok v w ∧ (part t ys o').run P w = .ok u w := by
        intro k xs ys o o' as bs r hag he hp hq
        match as, bs, he with
        | [], _, he => simp [eqCells] at he
        | _ :: _, [], he => simp [eqCells] at he
        | a :: c :: l, b :: m, he =>
          have := (eqCells_length _ _ _ _ he).1
          simp at this
        | [a], b :: c :: m, he =>
          have := (eqCells_length _ _ _ _ he).2
          simp at this
        | [a], [b], he =>
          have h1 : o < xs.size := by have := hp.1; simp at this; omega
          have h2 : o' < ys.size := by have := hq.1; simp at this; omega
          have g1 : xs[o]? = some xs[o] := Array.getElem?_eq_getElem h1
          have g2 : ys[o']? = some ys[o'] := Array.getElem?_eq_getElem h2
          refine ⟨a, b, xs[o], ys[o'], ?_, hp.2 0 a _ rfl (by rw [Nat.add_zero]; exact g1), hq.2 0 b _ rfl (by rw [Nat.add_zero]; exact g2), fun w => ?_⟩
          · simp only [eqCells] at he
            split at he
            · rename_i x hx; simp at he; rw [hx, he]
            · cases he
          · have hA := hty.agg w
            rw [hag] at hA
            exact ⟨by simp [part, hA, g1], by simp [part, hA, g2]⟩
      split at h
      · rename_i k hkk
        cases h
        rw [hkk] at hk
        simp only [kindOK] at hk
        subst hk
        intro w d hd xs ys o o' as bs r hpa hpb he
        obtain ⟨a, b, p, q, hc, hVa, hVb, hpq⟩ := one _ xs ys o o' as bs r (by simp [TD.agg?, hkk]) he hpa hpb
        refine ⟨p, q, (hpq w).1, (hpq w).2, ?_⟩
        obtain ⟨d', rfl⟩ : ∃ d', d = d' + 1 := ⟨d - 1, by omega⟩
        unfold eqCell at hc
        split at hc
        · rename_i k1 j1 a1 j2 a2 e1
          cases e1
          split at hc
          · rename_i hjk
            simp only [Bool.and_eq_true, decide_eq_true_eq] at hjk
            obtain ⟨rfl, rfl⟩ := hjk
            cases hc
            simp only [V] at hVa hVb
            subst hVa hVb
            exact run_equalIn_int w d' t _ _ _ _ hu
          · cases hc
        · rename_i e1; cases e1
        · rename_i e1; cases e1
        · cases hc
      · rename_i hkk
        cases h
        rw [hkk] at hk
        simp only [kindOK] at hk
        subst hk
        intro w d hd xs ys o o' as bs r hpa hpb he
        obtain ⟨a, b, p, q, hc, hVa, hVb, hpq⟩ := one _ xs ys o o' as bs r (by simp [TD.agg?, hkk]) he hpa hpb
        refine ⟨p, q, (hpq w).1, (hpq w).2, ?_⟩
        obtain ⟨d', rfl⟩ : ∃ d', d = d' + 1 := ⟨d - 1, by omega⟩
        unfold eqCell at hc
        split at hc
        · rename_i e1; cases e1
        · cases hc
          simp only [V] at hVa hVb
          subst hVa hVb
          exact run_equalIn_bool' w d' t _ _ hu
        · rename_i e1; cases e1
        · cases hc
      · rename_i hkk
        cases h
        rw [hkk] at hk
        simp only [kindOK] at hk
        subst hk
        intro w d hd xs ys o o' as bs r hpa hpb he
        obtain ⟨a, b, p, q, hc, hVa, hVb, hpq⟩ := one _ xs ys o o' as bs r (by simp [TD.agg?, hkk]) he hpa hpb
        refine ⟨p, q, (hpq w).1, (hpq w).2, ?_⟩
        obtain ⟨d', rfl⟩ : ∃ d', d = d' + 1 := ⟨d - 1, by omega⟩
        unfold eqCell at hc
        split at hc
        · rename_i e1; cases e1
        · rename_i e1; cases e1
        · rename_i la lb _
          cases hc
          simp only [V] at hVa hVb
          subst hVa hVb
          have := run_equalIn_string (P := P) w d' t ⟨la.toArray⟩ ⟨lb.toArray⟩ hu
          rw [strV_toList, strV_toList] at this
          exact this
        · cases hc
      · -- structs
        rename_i fs hkk
        split at h
        · rename_i hin
          split at h
          · rename_i l hl
            split at h
            · rename_i hz
              cases h
              have hz := Nat.eq_of_beq_eq_true hz
              rw [hkk] at hk
              obtain ⟨F, rfl, hsz, hF⟩ := hk
              have hag : dd.agg? = true := by simp [TD.agg?, hkk]
              obtain ⟨t', ht', htt⟩ := List.any_eq_true.1 hin
              have htt := Nat.eq_of_beq_eq_true htt
              subst htt
              intro w d hd xs ys o o' as bs r hpa hpb he
              obtain ⟨la, lb⟩ := eqCells_length _ _ _ _ he
              refine ⟨.agg (xs.extract o (o + dd.size)), .agg (ys.extract o' (o' + dd.size)), ?_, ?_, ?_⟩
              · have hA := hty.agg w; rw [hag] at hA
                simp [part, hA, hty.sizeOf w]
              · have hA := hty.agg w; rw [hag] at hA
                simp [part, hA, hty.sizeOf w]
              · obtain ⟨d', rfl⟩ : ∃ d', d = d' + 1 := ⟨d - 1, by omega⟩
                have hfo : P.fieldsOf t = F := by simp [Program.fieldsOf, hu]
                rw [run_equalIn_struct w d' t _ _ (by rw [hfo]; exact hu) (hE.1 t ht').2, hfo]
                exact eqFields_ok (plainT cx n) (fun t ks h => eqs_ok hT hE n t ks h) w d' (by omega) _ _ fs F.toList 0 _ as bs r hl (by simpa using hsz) (fun i x hx => by
                  obtain ⟨g, h1, h2⟩ := hF i x hx
                  exact ⟨g, by simpa using h1, h2⟩) (hpa.extract (by omega)) (hpb.extract (by omega)) he
            · cases h
          · cases h
        · cases h
      · -- rows
        rename_i m e z hkk
        split at h
        · rename_i l hl
          split at h
          · rename_i hz
            cases h
            simp only [Bool.and_eq_true] at hz
            have hz1 := Nat.eq_of_beq_eq_true hz.1
            have hz2 := Nat.eq_of_beq_eq_true hz.2
            rw [hkk] at hk
            obtain ⟨rfl, hes⟩ := hk
            have hag : dd.agg? = true := by simp [TD.agg?, hkk]
            intro w d hd xs ys o o' as bs r hpa hpb he
            obtain ⟨la, lb⟩ := eqCells_length _ _ _ _ he
            have htl : ∀ m, (times l m).length = m * l.length := by intro m; induction m with | zero => simp [times] | succ m ih => simp [times, ih, Nat.succ_mul]; omega
            rw [htl, hz1, hz2] at la lb
            refine ⟨.agg (xs.extract o (o + dd.size)), .agg (ys.extract o' (o' + dd.size)), ?_, ?_, ?_⟩
            · have hA := hty.agg w; rw [hag] at hA
              simp [part, hA, hty.sizeOf w]
            · have hA := hty.agg w; rw [hag] at hA
              simp [part, hA, hty.sizeOf w]
            · obtain ⟨d', rfl⟩ : ∃ d', d = d' + 1 := ⟨d - 1, by omega⟩
              have hS : (Go.sizeOf e).run P w = .ok z w := by
                cases hi : P.info? e with
                | none => simp [hi] at hes
                | some i => simp [Go.sizeOf, typeInfo, hi]; simpa [hi] using hes
              have := eqElems_ok (eqs_ok hT hE n e l hl) hz1 w d' (by omega) _ _ m 0 as bs r (by rw [Nat.zero_mul]; exact hpa.extract la) (by rw [Nat.zero_mul]; exact hpb.extract lb) he
              simp only [Op.equalIn, Sem.run_bind, run_underlying hu, Result.andThen_ok, hS, Std.Legacy.Range.forIn_eq_forIn_range', Std.Legacy.Range.size, Nat.sub_zero, Nat.add_sub_cancel, Nat.div_one]
              rw [this]
              cases r <;> rfl
          · cases h
        · cases h
      · cases h
    · cases h

end
end Go.Proofs.YtognccpmaljamaaGreatDoor.Sa

/- AS, part S15: two operands; one operation, whichever (but calls of functions). -/
namespace Go.Proofs.YtognccpmaljamaaGreatDoor.Sa
open Go
variable [GlobMem]

section
variable {P : Program} {cx : Cx} {B : Base} {o : Oper} {a : Act} {w : World} {s : S}

theorem rdo_agg (h : RSx B s a.tmps w) {d : Option TD} {x : Operand} {cs : List AVal} (hp : pureL cs = true) (e : s.rdo d x = .agg cs) : ∃ ρ M, V ρ M (.agg cs) (a.eval x) := by
  obtain ⟨ρ, M, hv⟩ := rdo_V h d x (by rw [e]; simpa [AVal.pure] using hp)
  rw [e] at hv; exact ⟨ρ, M, hv⟩

theorem eqCells_pure : ∀ (ks : List CK) (as bs : List AVal) (r : Bool), eqCells ks as bs = some r → pureL as = true ∧ pureL bs = true
  | [], [], [], _, _ => ⟨rfl, rfl⟩
  | k :: ks, a :: as, b :: bs, r, h => by
    simp only [eqCells] at h
    split at h
    · rename_i x hx
      split at h
      · rename_i q2 hq2
        obtain ⟨h1, h2⟩ := eqCells_pure ks as bs q2 hq2
        unfold eqCell at hx
        split at hx <;> simp_all [pureL, AVal.pure]
      · cases h
    · cases h
  | [], [], _ :: _, _, h => by simp [eqCells] at h
  | [], _ :: _, _, _, h => by simp [eqCells] at h
  | _ :: _, [], _, _, h => by simp [eqCells] at h
  | _ :: _, _ :: _, [], _, h => by simp [eqCells] at h

theorem isBool_und (hT : TysOK P cx) {t : Nat} (h : isBool (cx.ty.find t) = true) : P.underlying t = some .bool := by
  unfold isBool at h
  split at h
  · rename_i d hd
    split at h
    · rename_i hk
      obtain ⟨u, hu, hk'⟩ := (hT t d hd).und
      rw [hk] at hk'; simp only [kindOK] at hk'; rw [hu, hk']
    · cases h
  · cases h

theorem isPtr_und (hT : TysOK P cx) {t : Nat} (h : isPtr (cx.ty.find t) = true) : ∃ e, P.underlying t = some (.pointer e) := by
  unfold isPtr at h
  split at h
  · rename_i d hd
    split at h
    · rename_i hk
      obtain ⟨u, hu, hk'⟩ := (hT t d hd).und
      rw [hk] at hk'; simp only [kindOK] at hk'
      obtain ⟨e, rfl⟩ := hk'
      exact ⟨e, hu⟩
    · cases h
  · cases h

theorem eqGuard_ptr (op : BinOp) (t : TypeId) (x y : Operand) (p q : Option Addr) : eqGuard op t x y (.pointer p) (.pointer q) = pure () := by cases op <;> rfl

theorem equal_ptr_nil (w : World) {t e : TypeId} (hu : P.underlying t = some (.pointer e)) (p : Addr) (d : Nat) : (Op.equalIn (d + 1) t (.pointer (some p)) (.pointer none)).run P w = .ok false w := by
  simp only [Op.equalIn, Sem.run_bind, run_underlying hu, Result.andThen_ok, Sem.run_pure]

theorem equal_nil_nil (w : World) {t e : TypeId} (hu : P.underlying t = some (.pointer e)) (d : Nat) : (Op.equalIn (d + 1) t (.pointer none) (.pointer none)).run P w = .ok true w := by
  simp only [Op.equalIn, Sem.run_bind, run_underlying hu, Result.andThen_ok, Sem.run_pure, Option.isNone_none]

theorem step_binOp (hT : TysOK P cx) (hE : EqOK P cx) (h : RSx B s a.tmps w) (op : BinOp) (t : TypeId) (x y : Operand) (yt : TypeId) (hop : o.op = .binOp op t x y yt) (K : KV) :
    StepOKp P B o a w (binA cx op t (s.rdo (cx.ty.find t) x) (s.rdo (cx.ty.find t) y) fun v => K v s) K := by
  unfold binA
  split
  · rename_i k m k' n hx hy
    have ex := rdo_int h hx
    have ey := rdo_int h hy
    obtain ⟨h1, h2⟩ := step_shift (P := P) (o := o) h t x y yt ex ey K
    split
    · exact h1 hop
    · exact h2 hop
    · rename_i hs1 hs2
      split
      · rename_i hk
        have hk := of_decide_eq_true hk
        subst hk
        exact step_binI h op t x y yt hop ex ey hs1 hs2 K
      · exact StepOKp.none
  · rename_i l m hx hy
    exact step_binS h op t x y yt hop (rdo_str h hx) (rdo_str h hy) K
  · rename_i p q hx hy
    have ex := rdo_bool h hx
    have ey := rdo_bool h hy
    split
    · rename_i hb
      have hu := isBool_und hT hb
      have heq : ∀ w : World, (Op.equal t (.bool p) (.bool q)).run P w = .ok (p == q) w := fun w => run_equalIn_bool' w _ t p q hu
      split
      · exact StepOKp.flat h (v' := .bool (p == q)) (fun w => by
          have : (binOp .eql t (.bool p) (.bool q)).run P w = .ok (.bool (p == q)) w := by
            show (do pure (Value.bool (← Op.equal t (.bool p) (.bool q))) : Sem Value).run P w = _
            simp [heq]
          simp [execOp, hop, ex, ey, eqGuard_at_bool, this]) (fun _ _ => by simp only [V]) rfl
      · exact StepOKp.flat h (v' := .bool (!(p == q))) (fun w => by
          have : (binOp .neq t (.bool p) (.bool q)).run P w = .ok (.bool (!(p == q))) w := by
            show (do pure (Value.bool (!(← Op.equal t (.bool p) (.bool q)))) : Sem Value).run P w = _
            simp [heq]
          simp [execOp, hop, ex, ey, eqGuard_at_bool, this]) (fun _ _ => by simp only [V]) rfl
      · exact StepOKp.none
    · exact StepOKp.none
  · rename_i cs ds hx hy
    split
    · rename_i ks hks
      split
      · rename_i r hr
        obtain ⟨p1, p2⟩ := eqCells_pure _ _ _ _ hr
        obtain ⟨Own, ρ, M, hs⟩ := h
        have hvx := rdo_pure hs (cx.ty.find t) x (by rw [hx]; simpa [AVal.pure] using p1)
        have hvy := rdo_pure hs (cx.ty.find t) y (by rw [hy]; simpa [AVal.pure] using p2)
        rw [hx] at hvx
        rw [hy] at hvy
        simp only [V] at hvx hvy
        obtain ⟨us, ex, hl1, _⟩ := hvx
        obtain ⟨vs, ey, hl2, _⟩ := hvy
        obtain ⟨la, lb⟩ := eqCells_length _ _ _ _ hr
        rw [VL_iff] at hl1 hl2
        unfold plainTop at hks
        split at hks
        · rename_i d hd
          split at hks
          · rename_i hc
            simp only [Bool.and_eq_true] at hc
            obtain ⟨hag, hin⟩ := hc
            obtain ⟨t', ht', htt⟩ := List.any_eq_true.1 hin
            have htt := Nat.eq_of_beq_eq_true htt
            subst htt
            have hty := hT t d hd
            have hP1 : PartOK ρ M us.toArray 0 cs := ⟨by simp; omega, fun j a u ha hu => hl1.2 j a u ha (by simpa using hu)⟩
            have hP2 : PartOK ρ M vs.toArray 0 ds := ⟨by simp; omega, fun j a u ha hu => hl2.2 j a u ha (by simpa using hu)⟩
            have hsz : ks.length = d.size := by
              unfold plainT at hks
              rw [hd] at hks
              simp only at hks
              split at hks
              · rename_i hk; simp [TD.agg?, hk] at hag
              · rename_i hk; simp [TD.agg?, hk] at hag
              · rename_i hk; simp [TD.agg?, hk] at hag
              · split at hks
                · split at hks
                  · split at hks
                    · rename_i hz; cases hks; exact Nat.eq_of_beq_eq_true hz
                    · cases hks
                  · cases hks
                · cases hks
              · rename_i m' e' z' hk
                split at hks
                · rename_i l hl
                  split at hks
                  · rename_i hz
                    simp only [Bool.and_eq_true] at hz
                    cases hks
                    have htl : ∀ m, (times l m).length = m * l.length := by intro m; induction m with | zero => simp [times] | succ m ih => simp [times, ih, Nat.succ_mul]; omega
                    rw [htl, Nat.eq_of_beq_eq_true hz.1]; exact Nat.eq_of_beq_eq_true hz.2
                  · cases hks
                · cases hks
              · cases hks
            have hpq : ∀ w : World, (Op.equalIn 10000 t (.agg us.toArray) (.agg vs.toArray)).run P w = .ok r w := by
              intro w
              obtain ⟨p, q, hp, hq, hpq⟩ := eqs_ok hT hE 9 t ks hks w 10000 (by omega) us.toArray vs.toArray 0 0 cs ds r hP1 hP2 hr
              have hA := hty.agg w
              rw [hag] at hA
              have e1 : p = .agg us.toArray := by
                have : (part t us.toArray 0).run P w = .ok (.agg us.toArray) w := by
                  simp only [part, Sem.run_bind, hA, Result.andThen_ok, if_true, hty.sizeOf w, Sem.run_pure, Nat.zero_add]
                  rw [show d.size = us.toArray.size by simp; omega, Array.extract_size]
                rw [this] at hp
                cases hp; rfl
              have e2 : q = .agg vs.toArray := by
                have : (part t vs.toArray 0).run P w = .ok (.agg vs.toArray) w := by
                  simp only [part, Sem.run_bind, hA, Result.andThen_ok, if_true, hty.sizeOf w, Sem.run_pure, Nat.zero_add]
                  rw [show d.size = vs.toArray.size by simp; omega, Array.extract_size]
                rw [this] at hq
                cases hq; rfl
              subst e1 e2
              exact hpq
            have hg : ∀ (w : World) op x y, (eqGuard op t x y (.agg us.toArray) (.agg vs.toArray)).run P w = .ok () w := fun w op x y => run_eqGuard_agg w op t x y _ _ (hE.1 t ht').1
            split
            · exact StepOKp.flat ⟨Own, ρ, M, hs⟩ (v' := .bool r) (fun w => by
                simp [execOp, hop, ex, ey, hg, run_eql_struct, hpq]) (fun _ _ => by simp only [V]) rfl
            · exact StepOKp.flat ⟨Own, ρ, M, hs⟩ (v' := .bool (!r)) (fun w => by
                simp [execOp, hop, ex, ey, hg, run_neq_struct, hpq]) (fun _ _ => by simp only [V]) rfl
            · exact StepOKp.none
          · cases hks
        · cases hks
      · exact StepOKp.none
    · exact StepOKp.none
  · rename_i b off hx hy
    obtain ⟨g, ex⟩ := rdo_ptr h hx
    have ey := rdo_nilp h hy
    split
    · rename_i hb
      obtain ⟨e, hu⟩ := isPtr_und hT hb
      have heq : ∀ w : World, (Op.equal t (.pointer (some ⟨g, off, none⟩)) (.pointer none)).run P w = .ok false w := fun w => equal_ptr_nil w hu _ 9999
      split
      · exact StepOKp.flat h (v' := .bool false) (fun w => by
          have : (binOp .eql t (.pointer (some ⟨g, off, none⟩)) (.pointer none)).run P w = .ok (.bool false) w := by
            show (do pure (Value.bool (← Op.equal t (.pointer (some ⟨g, off, none⟩)) (.pointer none))) : Sem Value).run P w = _
            simp [heq]
          simp only [execOp, hop, ex, ey, eqGuard_ptr, Sem.run_bind, Sem.run_pure, Result.andThen_ok, this]) (fun _ _ => by simp only [V]) rfl
      · exact StepOKp.flat h (v' := .bool true) (fun w => by
          have : (binOp .neq t (.pointer (some ⟨g, off, none⟩)) (.pointer none)).run P w = .ok (.bool true) w := by
            show (do pure (Value.bool (!(← Op.equal t (.pointer (some ⟨g, off, none⟩)) (.pointer none)))) : Sem Value).run P w = _
            simp [heq]
          simp only [execOp, hop, ex, ey, eqGuard_ptr, Sem.run_bind, Sem.run_pure, Result.andThen_ok, this]) (fun _ _ => by simp only [V]) rfl
      · exact StepOKp.none
    · exact StepOKp.none
  · rename_i hx hy
    have ex := rdo_nilp h hx
    have ey := rdo_nilp h hy
    split
    · rename_i hb
      obtain ⟨e, hu⟩ := isPtr_und hT hb
      have heq : ∀ w : World, (Op.equal t (.pointer none) (.pointer none)).run P w = .ok true w := fun w => equal_nil_nil w hu 9999
      split
      · exact StepOKp.flat h (v' := .bool true) (fun w => by
          have : (binOp .eql t (.pointer none) (.pointer none)).run P w = .ok (.bool true) w := by
            show (do pure (Value.bool (← Op.equal t (.pointer none) (.pointer none))) : Sem Value).run P w = _
            simp [heq]
          simp only [execOp, hop, ex, ey, eqGuard_ptr, Sem.run_bind, Sem.run_pure, Result.andThen_ok, this]) (fun _ _ => by simp only [V]) rfl
      · exact StepOKp.flat h (v' := .bool false) (fun w => by
          have : (binOp .neq t (.pointer none) (.pointer none)).run P w = .ok (.bool false) w := by
            show (do pure (Value.bool (!(← Op.equal t (.pointer none) (.pointer none)))) : Sem Value).run P w = _
            simp [heq]
          simp only [execOp, hop, ex, ey, eqGuard_ptr, Sem.run_bind, Sem.run_pure, Result.andThen_ok, this]) (fun _ _ => by simp only [V]) rfl
      · exact StepOKp.none
    · exact StepOKp.none
  · exact StepOKp.none

end
end Go.Proofs.YtognccpmaljamaaGreatDoor.Sa

/- AS, part S16: blocks by other numbers. -/
namespace Go.Proofs.YtognccpmaljamaaGreatDoor.Sa
open Go
variable [GlobMem]

/-- The blocks bs are told of by ρ' under f. -/
noncomputable def Renum (f : Nat → Nat) (ρ ρ' : List Nat) (bs : List Nat) : Prop := ∀ b, b ∈ bs → ∀ g, ρ[b]? = some g → ρ'[f b]? = some g

theorem Renum.left {f : Nat → Nat} {ρ ρ' : List Nat} {as bs : List Nat} (h : Renum f ρ ρ' (as ++ bs)) : Renum f ρ ρ' as := fun b hb => h b (List.mem_append_left _ hb)
theorem Renum.right {f : Nat → Nat} {ρ ρ' : List Nat} {as bs : List Nat} (h : Renum f ρ ρ' (as ++ bs)) : Renum f ρ ρ' bs := fun b hb => h b (List.mem_append_right _ hb)

theorem renL_length (f : Nat → Nat) : ∀ (l : List AVal), (renL f l).length = l.length
  | [] => rfl
  | a :: l => by simp [renL, renL_length f l]
theorem renL_get (f : Nat → Nat) : ∀ (l : List AVal) (i : Nat), (renL f l)[i]? = (l[i]?).map (AVal.ren f)
  | [], i => by simp [renL]
  | a :: l, i => by cases i <;> simp [renL, renL_get f l]
theorem renLL_length (f : Nat → Nat) : ∀ (l : List (List AVal)), (renLL f l).length = l.length
  | [] => rfl
  | a :: l => by simp [renLL, renLL_length f l]
theorem renLL_get (f : Nat → Nat) : ∀ (l : List (List AVal)) (i : Nat), (renLL f l)[i]? = (l[i]?).map (renL f)
  | [], i => by simp [renLL]
  | a :: l, i => by cases i <;> simp [renLL, renLL_get f l]
theorem renL_append (f : Nat → Nat) : ∀ (l m : List AVal), renL f (l ++ m) = renL f l ++ renL f m
  | [], m => rfl
  | a :: l, m => by simp [renL, renL_append f l]
theorem renLL_flatten (f : Nat → Nat) : ∀ (l : List (List AVal)), (renLL f l).flatten = renL f l.flatten
  | [] => rfl
  | a :: l => by simp [renLL, renL_append, renLL_flatten f l]
theorem renLL_map (f : Nat → Nat) : ∀ (l : List (List AVal)), renLL f l = l.map (renL f)
  | [] => rfl
  | a :: l => by simp [renLL, renLL_map f l]

theorem ptrsL_get : ∀ {l : List AVal} {i : Nat} {a : AVal}, l[i]? = some a → ∀ b, b ∈ a.ptrs → b ∈ ptrsL l
  | [], i, a, h, b, hb => by simp at h
  | x :: l, 0, a, h, b, hb => by simp at h; subst h; exact List.mem_append_left _ hb
  | x :: l, i + 1, a, h, b, hb => by simp at h; exact List.mem_append_right _ (ptrsL_get h b hb)
theorem ptrsLL_get : ∀ {l : List (List AVal)} {i : Nat} {a : List AVal}, l[i]? = some a → ∀ b, b ∈ ptrsL a → b ∈ ptrsLL l
  | [], i, a, h, b, hb => by simp at h
  | x :: l, 0, a, h, b, hb => by simp at h; subst h; exact List.mem_append_left _ hb
  | x :: l, i + 1, a, h, b, hb => by simp at h; exact List.mem_append_right _ (ptrsLL_get h b hb)
theorem ptrsL_append : ∀ (l m : List AVal), ptrsL (l ++ m) = ptrsL l ++ ptrsL m
  | [], m => rfl
  | a :: l, m => by simp [ptrsL, ptrsL_append l]
theorem ptrsLL_flatten : ∀ (l : List (List AVal)), ptrsLL l = ptrsL l.flatten
  | [] => rfl
  | a :: l => by simp [ptrsLL, ptrsL_append, ptrsLL_flatten l]

mutual
theorem V_ren {f : Nat → Nat} {ρ ρ' : List Nat} {M M' : Mem} (hM : MLe M M') : ∀ (a : AVal) (v : Value), Renum f ρ ρ' a.ptrs → V ρ M a v → V ρ' M' (a.ren f) v
  | .undef, _, _, _ => by simp only [AVal.ren, V]
  | .bool _, _, _, h => by simpa only [AVal.ren, V] using h
  | .int _ _, _, _, h => by simpa only [AVal.ren, V] using h
  | .str _, _, _, h => by simpa only [AVal.ren, V] using h
  | .nilp, _, _, h => by simpa only [AVal.ren, V] using h
  | .ptr b o, _, hρ, h => by
    simp only [AVal.ren, V] at h ⊢
    obtain ⟨g, hg, hv⟩ := h
    exact ⟨g, hρ b (by simp [AVal.ptrs]) g hg, hv⟩
  | .rptr cs, _, hρ, h => by
    simp only [AVal.ren, V] at h ⊢
    obtain ⟨g, o, hv, hc⟩ := h
    exact ⟨g, o, hv, VC_ren hM cs g o (by simpa only [AVal.ptrs] using hρ) hc⟩
  | .ints _ _ _, _, _, h => by
    simp only [AVal.ren, V] at h ⊢
    obtain ⟨hu, base, cap, hv, hl, hc⟩ := h
    exact ⟨hu, base, cap, hv, hl, hc.mono hM⟩
  | .strs _ _, _, _, h => by
    simp only [AVal.ren, V] at h ⊢
    obtain ⟨hu, base, cap, hv, hl, hc⟩ := h
    exact ⟨hu, base, cap, hv, hl, hc.mono hM⟩
  | .strs2 _ _, _, _, h => by
    simp only [AVal.ren, V] at h ⊢
    obtain ⟨hu, base, cap, hv, hl, hc⟩ := h
    exact ⟨hu, base, cap, hv, hl, hc.mono hM⟩
  | .rows _ _ l, _, hρ, h => by
    simp only [AVal.ren, V, renLL_length] at h ⊢
    obtain ⟨hu, hw, base, cap, hv, hl, hc⟩ := h
    refine ⟨hu, fun r hr => ?_, base, cap, hv, hl, ?_⟩
    · rw [renLL_map] at hr
      obtain ⟨q, hq, rfl⟩ := List.mem_map.1 hr
      rw [renL_length]; exact hw q hq
    · rcases hc with hc | ⟨g, o, hb, hc⟩
      · exact .inl (by rw [renLL_flatten, hc]; rfl)
      · exact .inr ⟨g, o, hb, VR_ren hM l g o (by simpa only [AVal.ptrs] using hρ) hc⟩
  | .slen _, _, _, h => by simpa only [AVal.ren, V] using h
  | .agg cs, _, hρ, h => by
    simp only [AVal.ren, V] at h ⊢
    obtain ⟨vs, hv, hl, h1⟩ := h
    exact ⟨vs, hv, VL_ren hM cs vs (by simpa only [AVal.ptrs] using hρ) hl, h1⟩
  | .tup cs, _, hρ, h => by
    simp only [AVal.ren, V] at h ⊢
    obtain ⟨vs, hv, hl⟩ := h
    exact ⟨vs, hv, VL_ren hM cs vs (by simpa only [AVal.ptrs] using hρ) hl⟩
  | .fn _ cs, _, hρ, h => by
    simp only [AVal.ren, V] at h ⊢
    obtain ⟨vs, hv, hl⟩ := h
    exact ⟨vs, hv, VL_ren hM cs vs (by simpa only [AVal.ptrs] using hρ) hl⟩
  | .nilf, _, _, h => by simpa only [AVal.ren, V] using h
  | .nili, _, _, h => by simpa only [AVal.ren, V] using h
  | .eref _ _, _, _, h => by simp only [V] at h
  | .sref _, _, _, h => by simp only [V] at h
theorem VL_ren {f : Nat → Nat} {ρ ρ' : List Nat} {M M' : Mem} (hM : MLe M M') : ∀ (as : List AVal) (vs : List Value), Renum f ρ ρ' (ptrsL as) → VL ρ M as vs → VL ρ' M' (renL f as) vs
  | [], [], _, _ => by simp only [renL, VL]
  | a :: as, v :: vs, hρ, h => by
    simp only [renL, VL, ptrsL] at h hρ ⊢
    exact ⟨V_ren hM a v hρ.left h.1, VL_ren hM as vs hρ.right h.2⟩
  | [], _ :: _, _, h => by simp only [VL] at h
  | _ :: _, [], _, h => by simp only [VL] at h
theorem VC_ren {f : Nat → Nat} {ρ ρ' : List Nat} {M M' : Mem} (hM : MLe M M') : ∀ (as : List AVal) (g o : Nat), Renum f ρ ρ' (ptrsL as) → VC ρ M g o as → VC ρ' M' g o (renL f as)
  | [], _, _, _, _ => by simp only [renL, VC]
  | a :: as, g, o, hρ, h => by
    simp only [renL, VC, ptrsL] at h hρ ⊢
    obtain ⟨⟨c, hc, hv⟩, h2⟩ := h
    exact ⟨⟨c, hM _ _ _ hc, V_ren hM a c hρ.left hv⟩, VC_ren hM as g (o + 1) hρ.right h2⟩
theorem VR_ren {f : Nat → Nat} {ρ ρ' : List Nat} {M M' : Mem} (hM : MLe M M') : ∀ (rs : List (List AVal)) (g o : Nat), Renum f ρ ρ' (ptrsLL rs) → VR ρ M g o rs → VR ρ' M' g o (renLL f rs)
  | [], _, _, _, _ => by simp only [renLL, VR]
  | r :: rs, g, o, hρ, h => by
    simp only [renLL, VR, ptrsLL, renL_length] at h hρ ⊢
    exact ⟨VC_ren hM r g o hρ.left h.1, VR_ren hM rs g _ hρ.right h.2⟩
end

theorem cellPs_ren {f : Nat → Nat} {ρ ρ' : List Nat} {M M' : Mem} (hM : MLe M M') (a : AVal) (hρ : Renum f ρ ρ' a.ptrs) (i : Nat) (p' : Value → Prop) (h : (cellPs ρ' M' (a.ren f))[i]? = some p') :
    ∃ p, (cellPs ρ M a)[i]? = some p ∧ ∀ c, p c → p' c := by
  cases a <;> simp only [AVal.ren, cellPs, List.getElem?_nil, reduceCtorEq] at h ⊢
  · exact ⟨p', h, fun _ x => x⟩
  · exact ⟨p', h, fun _ x => x⟩
  · exact ⟨p', h, fun _ x => x⟩
  · rename_i u z l
    simp only [renLL_flatten, List.getElem?_map, Option.map_eq_some_iff, renL_get] at h
    obtain ⟨y, ⟨x, hx, rfl⟩, rfl⟩ := h
    refine ⟨V ρ M x, by rw [List.getElem?_map, hx]; rfl, fun c hc => V_ren hM x c ?_ hc⟩
    intro b hb g hg
    refine hρ b ?_ g hg
    simp only [AVal.ptrs, ptrsLL_flatten]
    exact ptrsL_get hx b hb

theorem HoldU.ren {f : Nat → Nat} {Own Own' : Owner} {w w' : World} {ρ ρ' : List Nat} {M M' : Mem} {ℓ ℓ' : Loc} {a : AVal} {v : Value} (hρ : Renum f ρ ρ' a.ptrs) (hM : MLe M M')
    (hO : ∀ g, Own g = some ℓ → Own' g = some ℓ' ∧ w'.heap[g]? = w.heap[g]?) (h : HoldU Own w ρ M ℓ a v) : HoldU Own' w' ρ' M' ℓ' (a.ren f) v := by
  obtain ⟨hw, base, cap, hv, hl, hc⟩ := h
  have hnum : (a.ren f).num = a.num := by cases a <;> simp [AVal.ren, AVal.num, renLL_length]
  have hwid : (a.ren f).wid = a.wid := by cases a <;> simp [AVal.ren, AVal.wid]
  refine ⟨?_, base, cap, by rw [hnum]; exact hv, by rw [hnum]; exact hl, ?_⟩
  · cases a <;> simp only [AVal.ren, AVal.wide] at hw ⊢
    intro r hr
    rw [renLL_map] at hr
    obtain ⟨q, hq, rfl⟩ := List.mem_map.1 hr
    rw [renL_length]; exact hw q hq
  · rcases hc with hc | ⟨g, o, hb, hg, hr⟩
    · exact .inl hc
    · refine .inr ⟨g, o, hb, (hO g hg).1, ?_⟩
      rw [hwid]
      exact hr.imp (hO g hg).2 (fun i q hq => cellPs_ren hM a hρ i q hq)

mutual
theorem Hold_ren {f : Nat → Nat} {Own Own' : Owner} {w w' : World} {ρ ρ' : List Nat} {M M' : Mem} (hM : MLe M M') : ∀ (a : AVal) (v : Value) (ℓ ℓ' : List Nat → Loc), Renum f ρ ρ' a.ptrs → (∀ g p, Own g = some (ℓ p) → Own' g = some (ℓ' p) ∧ w'.heap[g]? = w.heap[g]?) →
    Hold Own w ρ M ℓ a v → Hold Own' w' ρ' M' ℓ' (a.ren f) v
  | .agg cs, v, ℓ, ℓ', hρ, hO, h => by
    simp only [AVal.ren, Hold] at h ⊢
    obtain ⟨vs, hv, hl, h1⟩ := h
    exact ⟨vs, hv, HoldL_ren hM cs vs 0 ℓ ℓ' (by simpa only [AVal.ptrs] using hρ) hO hl, h1⟩
  | .tup cs, v, ℓ, ℓ', hρ, hO, h => by
    simp only [AVal.ren, Hold] at h ⊢
    obtain ⟨vs, hv, hl⟩ := h
    exact ⟨vs, hv, HoldL_ren hM cs vs 0 ℓ ℓ' (by simpa only [AVal.ptrs] using hρ) hO hl⟩
  | .ints u k l, v, ℓ, ℓ', hρ, hO, h => by
    cases u <;> simp only [AVal.ren, Hold, AVal.uniq] at h ⊢
    · exact V_ren (f := f) hM _ v hρ h
    · exact HoldU.ren (f := f) hρ hM (fun g hg => hO g [] hg) h
  | .strs u l, v, ℓ, ℓ', hρ, hO, h => by
    cases u <;> simp only [AVal.ren, Hold, AVal.uniq] at h ⊢
    · exact V_ren (f := f) hM _ v hρ h
    · exact HoldU.ren (f := f) hρ hM (fun g hg => hO g [] hg) h
  | .strs2 u l, v, ℓ, ℓ', hρ, hO, h => by
    cases u <;> simp only [AVal.ren, Hold, AVal.uniq] at h ⊢
    · exact V_ren (f := f) hM _ v hρ h
    · exact HoldU.ren (f := f) hρ hM (fun g hg => hO g [] hg) h
  | .rows u z l, v, ℓ, ℓ', hρ, hO, h => by
    cases u <;> simp only [AVal.ren, Hold, AVal.uniq] at h ⊢
    · exact V_ren (f := f) hM _ v hρ h
    · exact HoldU.ren (f := f) hρ hM (fun g hg => hO g [] hg) h
  | .undef, v, ℓ, ℓ', hρ, hO, h => by simp only [Hold, AVal.uniq, AVal.ren] at h ⊢; exact V_ren (f := f) hM _ v hρ h
  | .bool _, v, ℓ, ℓ', hρ, hO, h => by simp only [Hold, AVal.uniq, AVal.ren] at h ⊢; exact V_ren (f := f) hM _ v hρ h
  | .int _ _, v, ℓ, ℓ', hρ, hO, h => by simp only [Hold, AVal.uniq, AVal.ren] at h ⊢; exact V_ren (f := f) hM _ v hρ h
  | .str _, v, ℓ, ℓ', hρ, hO, h => by simp only [Hold, AVal.uniq, AVal.ren] at h ⊢; exact V_ren (f := f) hM _ v hρ h
  | .nilp, v, ℓ, ℓ', hρ, hO, h => by simp only [Hold, AVal.uniq, AVal.ren] at h ⊢; exact V_ren (f := f) hM _ v hρ h
  | .ptr _ _, v, ℓ, ℓ', hρ, hO, h => by simp only [Hold, AVal.uniq, AVal.ren] at h ⊢; exact V_ren (f := f) hM _ v hρ h
  | .rptr _, v, ℓ, ℓ', hρ, hO, h => by simp only [Hold, AVal.uniq, AVal.ren] at h ⊢; exact V_ren (f := f) hM _ v hρ h
  | .slen _, v, ℓ, ℓ', hρ, hO, h => by simp only [Hold, AVal.uniq, AVal.ren] at h ⊢; exact V_ren (f := f) hM _ v hρ h
  | .fn _ _, v, ℓ, ℓ', hρ, hO, h => by simp only [Hold, AVal.uniq, AVal.ren] at h ⊢; exact V_ren (f := f) hM _ v hρ h
  | .nilf, v, ℓ, ℓ', hρ, hO, h => by simp only [Hold, AVal.uniq, AVal.ren] at h ⊢; exact V_ren (f := f) hM _ v hρ h
  | .nili, v, ℓ, ℓ', hρ, hO, h => by simp only [Hold, AVal.uniq, AVal.ren] at h ⊢; exact V_ren (f := f) hM _ v hρ h
  | .eref _ _, v, ℓ, ℓ', hρ, hO, h => by simp only [Hold, AVal.uniq, V] at h
  | .sref _, v, ℓ, ℓ', hρ, hO, h => by simp only [Hold, AVal.uniq, V] at h
theorem HoldL_ren {f : Nat → Nat} {Own Own' : Owner} {w w' : World} {ρ ρ' : List Nat} {M M' : Mem} (hM : MLe M M') : ∀ (as : List AVal) (vs : List Value) (i : Nat) (ℓ ℓ' : List Nat → Loc), Renum f ρ ρ' (ptrsL as) → (∀ g p, Own g = some (ℓ p) → Own' g = some (ℓ' p) ∧ w'.heap[g]? = w.heap[g]?) →
    HoldL Own w ρ M ℓ i as vs → HoldL Own' w' ρ' M' ℓ' i (renL f as) vs
  | [], [], _, _, _, _, _, _ => by simp only [renL, HoldL]
  | a :: as, v :: vs, i, ℓ, ℓ', hρ, hO, h => by
    simp only [renL, HoldL, ptrsL] at h hρ ⊢
    exact ⟨Hold_ren hM a v _ _ hρ.left (fun g p hg => hO g (i :: p) hg) h.1, HoldL_ren hM as vs (i + 1) ℓ ℓ' hρ.right hO h.2⟩
  | [], _ :: _, _, _, _, _, _, h => by simp only [HoldL] at h
  | _ :: _, [], _, _, _, _, _, h => by simp only [HoldL] at h
end

mutual
theorem ren_id : ∀ (a : AVal), a.ren (fun b => b) = a
  | .undef => rfl
  | .bool _ => rfl
  | .int _ _ => rfl
  | .str _ => rfl
  | .nilp => rfl
  | .ptr _ _ => rfl
  | .rptr cs => by simp only [AVal.ren, renL_id cs]
  | .ints _ _ _ => rfl
  | .strs _ _ => rfl
  | .strs2 _ _ => rfl
  | .rows _ _ l => by simp only [AVal.ren, renLL_id l]
  | .slen _ => rfl
  | .agg cs => by simp only [AVal.ren, renL_id cs]
  | .tup cs => by simp only [AVal.ren, renL_id cs]
  | .fn _ cs => by simp only [AVal.ren, renL_id cs]
  | .nilf => rfl
  | .nili => rfl
  | .eref _ _ => rfl
  | .sref _ => rfl
theorem renL_id : ∀ (as : List AVal), renL (fun b => b) as = as
  | [] => rfl
  | a :: as => by simp only [renL, ren_id a, renL_id as]
theorem renLL_id : ∀ (as : List (List AVal)), renLL (fun b => b) as = as
  | [] => rfl
  | a :: as => by simp only [renLL, renL_id a, renLL_id as]
end

/-- A block by another number, other owners. -/
theorem BlkAt.ren {f : Nat → Nat} {Own Own' : Owner} {w w' : World} {ρ ρ' : List Nat} {M M' : Mem} {b b' : Nat} {cs : List AVal} (hM : MLe M M') (hρ : Renum f ρ ρ' (ptrsL cs)) (hb : ∀ g, ρ[b]? = some g → ρ'[b']? = some g)
    (hv : ∀ g, Own g = some (.var b) → Own' g = some (.var b') ∧ w'.heap[g]? = w.heap[g]?) (hO : ∀ g o, Own g = some (.cell b o) → Own' g = some (.cell b' o) ∧ w'.heap[g]? = w.heap[g]?) (h : BlkAt Own w ρ M b cs) : BlkAt Own' w' ρ' M' b' (renL f cs) := by
  obtain ⟨g, arr, e, h1, h2, h3, h4, h5⟩ := h
  refine ⟨g, arr, e, hb g h1, (hv g h2).1, (hv g h2).2 ▸ h3, by rw [renL_length]; exact h4, fun o a v ha hv' => ?_⟩
  rw [renL_get, Option.map_eq_some_iff] at ha
  obtain ⟨x, hx, rfl⟩ := ha
  obtain ⟨k1, k2⟩ := h5 o x v hx hv'
  exact ⟨k1, Hold_ren hM x v _ _ (fun c hc => hρ c (ptrsL_get hx c hc)) (fun g _ hg => hO g o hg) k2⟩

end Go.Proofs.YtognccpmaljamaaGreatDoor.Sa
