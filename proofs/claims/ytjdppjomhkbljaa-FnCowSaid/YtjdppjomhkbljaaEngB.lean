/- THE ENGINE, EngB. -/
import Derived.Test.YtjdppjomhkbljaaEngA
import Derived.LoopN
set_option linter.unusedVariables false
set_option linter.unusedSimpArgs false
set_option linter.unusedSectionVars false
namespace Go.Eng

section
variable {P : Program} {W : Nat → Prop} {w0 : World} {ρ0 : Env} {S : St} {a : Act} {w : World}

/-! structs built -/
theorem run_places : ∀ (fs : List Field) (l : List (Nat × Nat)), fldsL P fs = some l → ∀ w, (fs.mapM fun f => (do pure (f.offset, ← sizeOf f.type) : Sem (Nat × Nat))).run P w = .ok l w
  | [], l, h, w => by simp [fldsL] at h; subst h; rfl
  | f :: r, l, h, w => by
    simp only [fldsL] at h
    split at h
    · rename_i i l' hi hl
      obtain rfl := Option.some.inj h
      have ih := run_places r l' hl w
      have hsz : (sizeOf f.type).run P w = .ok i.size w := by simp [sizeOf, typeInfo, hi]
      simp only [List.mapM_cons, Sem.run_bind, hsz, Result.andThen_ok, Sem.run_pure, ih]
    · cases h

theorem fill_one (cells : List Value) (off : Nat) (us : List Value) (h : off + us.length ≤ cells.length) :
    (us.toArray.zipIdx.foldl (fun (cs : Array Value) (c, j) => cs.setIfInBounds (off + j) c) cells.toArray) = (cells.take off ++ us ++ cells.drop (off + us.length)).toArray := by
  have key : ∀ (us : List Value) (k : Nat) (cells : List Value), off + k + us.length ≤ cells.length →
      ((us.zipIdx k).foldl (fun (cs : Array Value) (p : Value × Nat) => cs.setIfInBounds (off + p.2) p.1) cells.toArray) = (cells.take (off + k) ++ us ++ cells.drop (off + k + us.length)).toArray := by
    intro us
    induction us with
    | nil => intro k cells _; simp
    | cons u r ih =>
      intro k cells hk
      simp only [List.zipIdx_cons, List.foldl_cons, List.setIfInBounds_toArray]
      rw [ih (k + 1) (cells.set (off + k) u) (by simp at hk ⊢; omega)]
      congr 1
      have := list_seg_step cells (off + k) u r (by simp at hk; omega)
      simpa [Nat.add_assoc] using this
  have := key us 0 cells (by simpa using h)
  simp only [Nat.add_zero] at this
  rw [← this, ← Array.foldl_toList]
  simp

theorem build_sound (hm : Mt W w0 ρ0 S a w) {ps : List (Nat × Nat)} : ∀ {parts : List (Nat × Operand)} {cs : List AC} {K : List AC → Prop} {vs : List Value}, buildVC S true ps cs parts K →
    (∀ ρ, Agree S.look ρ0 ρ → Cells ρ cs vs) →
    ∃ ds us, K ds ∧ (∀ ρ, Agree S.look ρ0 ρ → Cells ρ ds us) ∧ Instr.fill (ps.toArray[·]?) vs.toArray (parts.map fun (i, x) => (i, a.eval x)) = some us.toArray
  | [], cs, K, vs, h, hc => ⟨cs, vs, h, hc, rfl⟩
  | (j, x) :: r, cs, K, vs, h, hc => by
    simp only [buildVC] at h
    split at h
    · rename_i off n hj
      obtain ⟨v, ⟨h1, h2⟩, hv⟩ := rd_sound hm h
      obtain ⟨hl, hn, hfit⟩ := h1 trivial
      have hcu : ∀ ρ, Agree S.look ρ0 ρ → Cells ρ v.cells (a.eval x).cells.toList := fun ρ hρ => AV.cells_Is (hv ρ hρ) (.inl (by omega))
      have hul : (a.eval x).cells.toList.length = n := by rw [(hcu ρ0 (Agree.refl _ _)).length, hl]
      have hvl := (hc ρ0 (Agree.refl _ _)).length
      obtain ⟨ds, us, hK, hd, hf⟩ := build_sound hm (parts := r) h2 (vs := vs.take off ++ (a.eval x).cells.toList ++ vs.drop (off + n)) (fun ρ hρ => by
        have := (hc ρ hρ).patch off (hcu ρ hρ)
        rwa [hul] at this)
      refine ⟨ds, us, hK, hd, ?_⟩
      have hj' : ps.toArray[j]? = some (off, n) := by simpa using hj
      have hsz : (a.eval x).cells.size = n := by simpa using hul
      have hfo := fill_one vs off (a.eval x).cells.toList (by omega)
      simp only [Array.toArray_toList, hul] at hfo
      simp only [List.map_cons, Instr.fill, hj', hsz, List.size_toArray]
      rw [if_neg (by simp; omega)]
      rw [hfo]
      exact hf
    · exact h.elim

theorem setL_get : ∀ (l : List (List AC)) (j : Nat) (c : List AC) (k : Nat), (setL l j c)[k]? = if k = j then (if j < l.length then some c else none) else l[k]?
  | [], _, _, _ => by simp [setL]
  | _ :: _, 0, _, 0 => by simp [setL]
  | _ :: _, 0, _, _ + 1 => by simp [setL]
  | _ :: _, _ + 1, _, 0 => by simp [setL]
  | _ :: r, j + 1, c, k + 1 => by simp [setL, setL_get r j c k]
theorem setL_length : ∀ (l : List (List AC)) (j : Nat) (c : List AC), (setL l j c).length = l.length
  | [], _, _ => rfl
  | _ :: _, 0, _ => rfl
  | _ :: r, j + 1, c => by simp [setL, setL_length r j c]

theorem slice_sound (hm : Mt W w0 ρ0 S a w) {n sz : Nat} (hsz : 0 < sz) : ∀ {parts : List (Nat × Operand)} {l : List (List AC)} {K : List (List AC) → Prop} {vs : List Value}, sliceVC S true n sz l parts K →
    l.length = n → (∀ (k : Nat) (c : List AC), l[k]? = some c → c.length = sz) → (∀ ρ, Agree S.look ρ0 ρ → Cells ρ (flat (fun k => l.getD k []) n) vs) →
    ∃ l' us, K l' ∧ l'.length = n ∧ (∀ (k : Nat) (c : List AC), l'[k]? = some c → c.length = sz) ∧ (∀ ρ, Agree S.look ρ0 ρ → Cells ρ (flat (fun k => l'.getD k []) n) us) ∧ Instr.fill (fun i => some (i * sz, sz)) vs.toArray (parts.map fun (i, x) => (i, a.eval x)) = some us.toArray
  | [], l, K, vs, h, hl, hlen, hc => ⟨l, vs, h, hl, hlen, hc, rfl⟩
  | (j, x) :: r, l, K, vs, h, hl, hlen, hc => by
    simp only [sliceVC] at h
    obtain ⟨v, ⟨h1, h2⟩, hv⟩ := rd_sound hm h
    obtain ⟨hvl, hj⟩ := h1 trivial
    have hgl : ∀ (l : List (List AC)), l.length = n → (∀ (k : Nat) (c : List AC), l[k]? = some c → c.length = sz) → ∀ k, k < n → ((fun k => l.getD k []) k).length = sz := fun l hl hlen k hk => by
      have : l[k]? = some l[k] := List.getElem?_eq_getElem (by omega)
      simp only [List.getD, this, Option.getD_some]
      exact hlen k _ this
    have hfl := flat_length (hgl l hl hlen)
    have hvsl := (hc ρ0 (Agree.refl _ _)).length
    rw [hfl] at hvsl
    have hcu : ∀ ρ, Agree S.look ρ0 ρ → Cells ρ v.cells (a.eval x).cells.toList := fun ρ hρ => AV.cells_Is (hv ρ hρ) (.inl (by omega))
    have hul : (a.eval x).cells.toList.length = sz := by rw [(hcu ρ0 (Agree.refl _ _)).length, hvl]
    have hjn : (j + 1) * sz ≤ n * sz := Nat.mul_le_mul_right _ hj
    rw [Nat.add_mul, Nat.one_mul] at hjn
    have hlen' : ∀ (k : Nat) (c : List AC), (setL l j v.cells)[k]? = some c → c.length = sz := fun k c hk => by
      rw [setL_get] at hk
      split at hk
      · split at hk
        · obtain rfl := Option.some.inj hk; exact hvl
        · cases hk
      · exact hlen k c hk
    have hl' : (setL l j v.cells).length = n := by rw [setL_length]; exact hl
    obtain ⟨l', us, hK, hl2, hlen2, hd, hf⟩ := slice_sound hm hsz (parts := r) h2 (vs := vs.take (j * sz) ++ (a.eval x).cells.toList ++ vs.drop (j * sz + sz)) hl' hlen' (fun ρ hρ => by
      have hfl' := flat_length (hgl _ hl' hlen')
      refine Cells.of_get (by rw [hfl']; simp [hul]; omega) fun q c u hq hu => ?_
      have hqn : q < n * sz := by have := (List.getElem?_eq_some_iff.1 hq).1; rwa [hfl'] at this
      obtain ⟨k, f, hk, hff, rfl⟩ := divmod sz q n hqn
      rw [flat_get (hgl _ hl' hlen') k f hk hff] at hq
      have hseg := seg_get vs (a.eval x).cells.toList (j * sz) (by omega) (k * sz + f)
      rw [hul] at hseg
      rw [hseg] at hu
      simp only [List.getD, setL_get] at hq
      by_cases e : k = j
      · subst e
        rw [if_pos (by omega), show k * sz + f - k * sz = f by omega] at hu
        simp only [if_true, if_pos (show k < l.length by omega), Option.getD_some] at hq
        obtain ⟨u', hu', hI⟩ := (hcu ρ hρ).get f c hq
        rw [hu] at hu'
        obtain rfl := Option.some.inj hu'
        exact hI
      · rw [if_neg] at hu
        · simp only [if_neg e] at hq
          have hg0 : (flat (fun k => l.getD k []) n)[k * sz + f]? = some c := by rw [flat_get (hgl l hl hlen) k f hk hff]; exact hq
          obtain ⟨u', hu', hI⟩ := (hc ρ hρ).get _ c hg0
          rw [hu] at hu'
          obtain rfl := Option.some.inj hu'
          exact hI
        · rintro ⟨e1, e2⟩
          rcases Nat.lt_or_gt_of_ne e with hlt | hgt
          · have : (k + 1) * sz ≤ j * sz := Nat.mul_le_mul_right _ (by omega)
            rw [Nat.add_mul] at this; omega
          · have : (j + 1) * sz ≤ k * sz := Nat.mul_le_mul_right _ (by omega)
            rw [Nat.add_mul] at this; omega)
    refine ⟨l', us, hK, hl2, hlen2, hd, ?_⟩
    have hsz' : (a.eval x).cells.size = sz := by simpa using hul
    have hfo := fill_one vs (j * sz) (a.eval x).cells.toList (by omega)
    simp only [Array.toArray_toList, hul] at hfo
    simp only [List.map_cons, Instr.fill, hsz', List.size_toArray]
    rw [if_neg (by simp; omega)]
    rw [hfo]
    exact hf

theorem flat_const (z : List AC) {ρ : Env} {zv : List Value} (hz : Cells ρ z zv) : ∀ n, Cells ρ (flat (fun _ => z) n) ((List.range n).flatMap fun _ => zv)
  | 0 => trivial
  | n + 1 => by
    rw [flat, List.range_succ, List.flatMap_append]
    simpa using (flat_const z hz n).append hz

theorem made_eq (z : Array Value) (sz : Nat) (hz : z.size = sz) : ∀ n, ((Array.range (n * sz)).map (z[· % z.size]!)).toList = (List.range n).flatMap fun _ => z.toList
  | 0 => by simp
  | n + 1 => by
    have ih := made_eq z sz hz n
    simp only [Array.toList_map, Array.toList_range] at ih ⊢
    rw [List.range_succ (n := n), List.flatMap_append, ← ih, Nat.add_mul, Nat.one_mul, List.range_add, List.map_append]
    congr 1
    simp only [List.flatMap_cons, List.flatMap_nil, List.append_nil, List.map_map]
    apply List.ext_getElem?
    intro j
    by_cases hj : j < sz
    · have : (n * sz + j) % z.size = j := by rw [hz, Nat.mul_add_mod_self_right, Nat.mod_eq_of_lt hj]
      have hm : j % sz = j := Nat.mod_eq_of_lt hj
      simp [hj, this, hz, hm]
    · rw [List.getElem?_eq_none (by simp; omega), List.getElem?_eq_none (by simp; omega)]

theorem run_buildSlice {t e : TypeId} {sz by_ n : Nat} {z : List AC} (hel : elP P t = some (e, sz, by_)) (hz : zeroP P e = some z) (hzl : z.length = sz) (hsz : 0 < sz) (hbig : n * sz ≤ 16777216) {parts : Array (Nat × Operand)}
    (hm : Mt W w0 ρ0 S a w) {K : List (List AC) → Prop} (h : sliceVC S true n sz (List.replicate n z) parts.toList K) :
    ∃ l us, K l ∧ l.length = n ∧ (∀ (k : Nat) (c : List AC), l[k]? = some c → c.length = sz) ∧ (∀ ρ, Agree S.look ρ0 ρ → Cells ρ (flat (fun k => l.getD k []) n) us) ∧
      (Instr.buildSlice t n (parts.map fun (i, x) => (i, a.eval x))).run P w = .ok (.slice (some ⟨w.heap.size, 0, none⟩) n n) (w.alloc (.cells us.toArray e)) := by
  obtain ⟨hun, i, hi, hisz, hiby⟩ := run_elP hel
  obtain ⟨zv, i', hi', hiz, hzc, hzr⟩ := run_zeroP hz
  have hzs : zv.cells.size = sz := by have := (hzc ρ0).length; simpa [hzl] using this
  have hmade := made_eq zv.cells sz hzs n
  obtain ⟨l, us, hK, hl, hlen, hc, hf⟩ := slice_sound hm hsz h (vs := (List.range n).flatMap fun _ => zv.cells.toList) (by simp) (fun k c hk => by
    rw [List.getElem?_replicate] at hk
    split at hk
    · obtain rfl := Option.some.inj hk; exact hzl
    · cases hk) (fun ρ _ => by
    have e : flat (fun k => (List.replicate n z).getD k []) n = flat (fun _ => z) n := by
      have : ∀ j, j ≤ n → flat (fun k => (List.replicate n z).getD k []) j = flat (fun _ => z) j := by
        intro j
        induction j with
        | zero => intro _; rfl
        | succ j ih =>
          intro hj
          rw [flat, flat, ih (by omega)]
          simp [List.getD, List.getElem?_replicate, show j < n by omega]
      exact this n (Nat.le_refl _)
    rw [e]
    exact flat_const z (hzc ρ) n)
  refine ⟨l, us, hK, hl, hlen, hc, ?_⟩
  have hs : (sizeOf e).run P w = .ok sz w := by simp [sizeOf, typeInfo, hi, hisz]
  have hnb : ¬ (n * sz > 2 ^ 24) := by omega
  rw [← hmade] at hf
  simp only [Array.toArray_toList] at hf
  by_cases hn0 : n * sz = 0
  · simp only [Instr.buildSlice, Sem.run_bind, run_underlying hun, Result.andThen_ok, hs]
    have er : Array.range 0 = #[] := rfl
    rw [hn0, er] at hf
    simp only [hn0, er, if_true, Sem.run_bind, Sem.run_pure, Result.andThen_ok, gt_iff_lt, Nat.not_lt_zero, if_false]
    have e0 : ((#[] : Array Nat).map fun x => (zv.cells[x % zv.cells.size]! : Value)) = #[] := by simp
    rw [e0] at hf
    simp [hf, newRow, newObj, Sem.run]
  · simp only [Instr.buildSlice, Sem.run_bind, run_underlying hun, Result.andThen_ok, hs, if_neg hnb, if_neg hn0, hzr, Sem.run_pure]
    simp [hf, newRow, newObj, Sem.run]

theorem run_build {t : TypeId} {l : List (Nat × Nat)} {z : List AC} (hz : zeroP P t = some z) (hl : fldsP P t = some l) {parts : Array (Nat × Operand)} (hm : Mt W w0 ρ0 S a w) {K : List AC → Prop}
    (h : buildVC S true l z parts.toList K) : ∃ ds v, K ds ∧ (∀ ρ, Agree S.look ρ0 ρ → (AV.agg ds).Is ρ v) ∧ (Instr.build t (parts.map fun (i, x) => (i, a.eval x))).run P w = .ok v w := by
  obtain ⟨zv, i, hi, hiz, hzc, hzr⟩ := run_zeroP hz
  unfold fldsP at hl
  split at hl
  · rename_i fs hd
    obtain ⟨ds, us, hK, hds, hf⟩ := build_sound hm h (vs := zv.cells.toList) (fun ρ _ => hzc ρ)
    refine ⟨ds, .agg us.toArray, hK, fun ρ hρ => ⟨us, rfl, hds ρ hρ⟩, ?_⟩
    have hp := run_places fs.toList l hl w
    simp only [Array.toArray_toList, List.getElem?_toArray] at hf
    simp only [Instr.build, Sem.run_bind, hzr, Result.andThen_ok, run_underlying hd, Array.mapM_eq_mapM_toList, Sem.run_map, hp]
    simp [hf]
  · cases hl
end
end Go.Eng

namespace Go.Eng

section
variable {P : Program} {W : Nat → Prop} {w0 : World} {ρ0 : Env} {S : St} {a : Act} {w : World}

theorem wp_val {o : Oper} {next : Act → World → Prop} {Q : Exit → Act → World → Prop} {v : Value} {w' : World} (h : (execOp a.eval o).run P w = .ok (.value v) w') (k : next (a.put o.dst v) w') : o.wp P a w next Q := by
  unfold Oper.wp; rw [h]; exact k
theorem wp_skp {o : Oper} {next : Act → World → Prop} {Q : Exit → Act → World → Prop} {w' : World} (h : (execOp a.eval o).run P w = .ok .skip w') (k : next (a.put o.dst undef) w') : o.wp P a w next Q := by
  unfold Oper.wp; rw [h]; exact k

/-- what an operation leaves -/
def Leaves (W : Nat → Prop) (w0 : World) (ρ0 : Env) (a : Act) (K : Bool → AV → St → Prop) (v : Value) (w' : World) : Prop :=
  ∃ g av S' ρ1, K g av S' ∧ (∀ x, Same ρ0 ρ1 (.out x)) ∧ Mt W w0 ρ1 S' a w' ∧ ∀ ρ, Agree S'.look ρ1 ρ → SlOk ρ (.v g av) v

theorem leaves_same {K : Bool → AV → St → Prop} {v : Value} {av : AV} (hm : Mt W w0 ρ0 S a w) (hK : K true av S) (hv : ∀ ρ, Agree S.look ρ0 ρ → av.Is ρ v) : Leaves W w0 ρ0 a K v w :=
  ⟨true, av, S, ρ0, hK, fun _ => Same.refl _ _, hm, fun ρ hρ => ⟨fun _ => hv ρ hρ, fun h => by cases h⟩⟩

theorem set_out (ρ0 : Env) (n b s : Nat) : ∀ x, Same ρ0 (ρ0.set (.loc n) b s) (.out x) := fun x => ⟨fun _ => by simp [Env.set], fun _ => by simp [Env.set], by simp [Env.set]⟩

theorem Args_cons {ρ : Env} {v : AV} {l : List AV} {vs : List Value} (h : Args ρ (v :: l) vs) : ∃ u us, vs = u :: us ∧ v.Is ρ u ∧ Args ρ l us := by
  cases vs with
  | nil => exact h.elim
  | cons u us => exact ⟨u, us, rfl, h.1, h.2⟩
theorem Args_nil {ρ : Env} {vs : List Value} (h : Args ρ [] vs) : vs = [] := by
  cases vs with
  | nil => rfl
  | cons u us => exact h.elim
theorem Args_append {ρ : Env} : ∀ {l : List AV} {vs : List Value} {l' : List AV} {vs' : List Value}, Args ρ l vs → Args ρ l' vs' → Args ρ (l ++ l') (vs ++ vs')
  | [], [], _, _, _, h => h
  | _ :: _, _ :: _, _, _, h, k => ⟨h.1, Args_append h.2 k⟩
  | [], _ :: _, _, _, h, _ => h.elim
  | _ :: _, [], _, _, h, _ => h.elim

theorem sl_conc {ρ : Env} {p : AA} {n c : Nat} {v : Value} (h : (AV.c (.sl p n c)).Is ρ v) : ∃ o, v = .slice o n c ∧ n ≤ c ∧ (0 < c → o = some (p.conc ρ)) := h

theorem optI_sound {x : Option Operand} {d : Int} {K : Int → Prop} (hm : Mt W w0 ρ0 S a w) (h : optI S true x d K) : ∃ n, K n ∧ (x = none → n = d) ∧ ∀ o, x = some o → ∃ k, a.eval o = .int k n := by
  cases x with
  | none => exact ⟨d, h, fun _ => rfl, fun o e => by cases e⟩
  | some o =>
    obtain ⟨v, h1, h2⟩ := rd_sound hm h
    unfold asI at h1
    split at h1
    · rename_i k n
      exact ⟨n, h1, fun e => (by cases e), fun o' e => ⟨k, by obtain rfl := Option.some.inj e; exact h2 ρ0 (Agree.refl _ _)⟩⟩
    · exact h1.elim
theorem optI_false {x : Option Operand} {γ : Bool} {d : Int} {K : Int → Prop} (h : optI S γ x d K) : ∃ n, K n := by
  cases x with
  | none => exact ⟨d, h⟩
  | some o =>
    obtain ⟨v, h1⟩ := rd_false h
    unfold asI at h1
    split at h1
    · exact ⟨_, h1⟩
    · exact h1.elim

theorem run_bound {v : Value} {k : IntKind} {i : Int} {y : Nat} {code : BoundsCode} (hv : v = .int k i) (h0 : 0 ≤ i) (h1 : i ≤ y) : (Instr.sliceBound v y code).run P w = .ok i.toNat w := by
  subst hv
  simp [Instr.sliceBound, asIntOf, h0, h1]

theorem run_bounds2 {x y : Option Value} {n c : Nat} {l h : Int} {sl : Bool} (hx : x = none → l = 0) (hx' : ∀ v, x = some v → ∃ k, v = .int k l) (hy : y = none → h = n) (hy' : ∀ v, y = some v → ∃ k, v = .int k h) (h0 : 0 ≤ l) (h1 : l ≤ h) (h2 : h ≤ c) :
    (Instr.sliceBounds sl n c x y none).run P w = .ok (l.toNat, h.toNat, c) w := by
  unfold Instr.sliceBounds
  cases y with
  | none =>
    have hh : n = h.toNat := by have := hy rfl; omega
    subst hh
    cases x with
    | none => simp [hx rfl]
    | some v =>
      obtain ⟨k, hk⟩ := hx' v rfl
      have e2 : ∀ code, (Instr.sliceBound v h.toNat code).run P w = .ok l.toNat w := fun _ => run_bound hk h0 (by omega)
      simp [e2]
  | some u =>
    obtain ⟨k, hk⟩ := hy' u rfl
    have e1 : ∀ code, (Instr.sliceBound u c code).run P w = .ok h.toNat w := fun _ => run_bound hk (by omega) h2
    cases x with
    | none => simp [hx rfl, e1]
    | some v =>
      obtain ⟨k', hk'⟩ := hx' v rfl
      have e2 : ∀ code, (Instr.sliceBound v h.toNat code).run P w = .ok l.toNat w := fun _ => run_bound hk' h0 (by omega)
      simp [e1, e2]

theorem run_bounds3 {x : Option Value} {y z : Value} {n c : Nat} {l h m : Int} {ky kz : IntKind} (hx : x = none → l = 0) (hx' : ∀ v, x = some v → ∃ k, v = .int k l) (hy : y = .int ky h) (hz : z = .int kz m) (h0 : 0 ≤ l) (h1 : l ≤ h) (h2 : h ≤ m) (h3 : m ≤ c) :
    (Instr.sliceBounds true n c x (some y) (some z)).run P w = .ok (l.toNat, h.toNat, m.toNat) w := by
  unfold Instr.sliceBounds
  simp only [Sem.run_bind, run_bound hz (by omega) h3, run_bound hy (show 0 ≤ h by omega) (show h ≤ (m.toNat : Int) by omega), Result.andThen_ok, Option.isSome_some, if_true]
  cases x with
  | none => simp [hx rfl]
  | some v =>
    obtain ⟨k, hk⟩ := hx' v rfl
    simp [run_bound hk h0 (show l ≤ (h.toNat : Int) by omega)]

theorem run_callFunc {f : FuncId} (h : fnP P f = true) (args : Array Value) : (callFunc f args).run P w = .ok (.enter f args) w := by
  unfold fnP at h
  split at h
  · rename_i fn hf
    simp only [Bool.and_eq_true, bne_iff_ne, ne_eq] at h
    obtain ⟨h1, h2⟩ := h
    obtain ⟨c, hc⟩ := Option.isSome_iff_exists.1 h2
    have h3 : (fn.name == "runtime.NumGoroutine") = false := by simpa using h1
    simp [callFunc, program, Sem.run, hf, h1, hc]
  · cases h

theorem findC_spec {C : List Contract} (hC : ∀ c ∈ C, SpecOK P c) {f : FuncId} {args : List AV} {M : RId → Option Rg} : ∀ {C' : List Contract}, (∀ c ∈ C', c ∈ C) → findC C' f args M = .bad ∨ ∃ c ∈ C, c.f = f ∧ findC C' f args M = c.sp args M
  | [], _ => .inl rfl
  | c :: cs, h => by
    simp only [findC]
    split
    · rename_i e; exact .inr ⟨c, h c (by simp), e, rfl⟩
    · exact findC_spec hC fun d hd => h d (by simp [hd])

theorem callVC_sound {C : List Contract} (hC : ∀ c ∈ C, SpecOK P c) (hm : Mt W w0 ρ0 S a w) {f : FuncId} {args : List AV} {vs : List Value} {K : Bool → AV → St → Prop} (h : callVC C S true f args K)
    (ha : ∀ ρ, Agree S.look ρ0 ρ → Args ρ args vs) : (fnP P f = true ∧ Calls P f vs.toArray w fun e w' => ∃ v, e = .returned v ∧ Leaves W w0 ρ0 a K v w') ∨
      ∃ v, (callFunc f vs.toArray).run P w = .ok (.value v) w ∧ Leaves W w0 ρ0 a K v w := by
  unfold callVC at h
  rcases findC_spec hC (f := f) (args := args) (M := S.look) (C' := C) (fun _ h => h) with hb | ⟨c, hc, rfl, he⟩
  · rw [hb] at h; exact h.elim
  rcases hC c hc with hsp | hsp
  · left
    refine ⟨hsp.1, ?_⟩
    have hsp := hsp.2 args S.look
    rw [he] at h
    split at h
    · rename_i pre val hs
      rw [hs] at hsp
      refine (call_sound hm (hsp (h.1 rfl)) ha).mono ?_
      rintro e w' ⟨p, ρ1, v, _, rfl, ho, hmt, hv⟩
      refine ⟨v, rfl, true, _, S, ρ1, h.2, ho, ?_, fun ρ hρ => ⟨fun _ => ?_, fun h => by cases h⟩⟩
      · simpa [St.setAll, dnr] using hmt
      · exact hv ρ (by simpa [St.setAll, dnr] using hρ)
    · rename_i pre ι cond val new upd hs
      rw [hs] at hsp
      obtain ⟨hpre, hK⟩ := h.1 rfl
      refine (call_sound hm (hsp hpre) ha).mono ?_
      rintro e w' ⟨p, ρ1, v, hp, rfl, ho, hmt, hv⟩
      exact ⟨v, rfl, true, _, _, ρ1, hK p hp, ho, hmt, fun ρ hρ => ⟨fun _ => hv ρ hρ, fun h => by cases h⟩⟩
    · exact h.elim
  · right
    have hsp := hsp args S.look
    rw [he] at h
    split at h
    · rename_i pre val hs
      rw [hs] at hsp
      obtain ⟨v, hv, hi⟩ := hsp (h.1 rfl) W _ ρ0 w vs fun ρ hρ => ⟨(hm ρ hρ).mem, ha ρ hρ⟩
      exact ⟨v, hv, leaves_same hm h.2 fun ρ _ => hi _ ρ⟩
    · rename_i pre ι cond val new upd hs
      rw [hs] at hsp
      exact hsp.elim
    · exact h.elim

theorem alloc_leaves {K : Bool → AV → St → Prop} (hm : Mt W w0 ρ0 S a w) {g : Rg} {s : Nat} {o : Obj} {av : AV} {v : Value} (hK : K true av (S.alloc g)) (hone : ∀ i, g.has i → i = 0)
    (hok : ∀ ρ : Env, Agree S.look ρ0 ρ → ρ.blk (.loc S.loc.length) 0 = w.heap.size → ρ.base (.loc S.loc.length) 0 = 0 → ρ.sz (.loc S.loc.length) = s → RegOk ρ (.loc S.loc.length) (w.alloc o) g)
    (hv : ∀ ρ : Env, ρ.blk (.loc S.loc.length) 0 = w.heap.size → ρ.base (.loc S.loc.length) 0 = 0 → av.Is ρ v) : Leaves W w0 ρ0 a K v (w.alloc o) := by
  refine ⟨true, av, _, ρ0.set (.loc S.loc.length) w.heap.size s, hK, set_out _ _ _ _, Mt_alloc hm g s o hone hok, fun ρ hρ => ⟨fun _ => ?_, fun h => by cases h⟩⟩
  have hs := hρ (.loc S.loc.length) g (by rw [look_alloc, if_pos rfl])
  exact hv ρ (by have := hs.blk 0; simpa [Env.set] using this.symm) (by have := hs.base 0; simpa [Env.set] using this.symm)

theorem Args_eval1 {ρ : Env} {l : List AV} {xs : List Operand} (h : Args ρ l (xs.map a.eval)) : Args ρ l (xs.toArray.map a.eval).toList := by simpa using h

end
end Go.Eng

namespace Go.Eng

section
variable {P : Program} {W : Nat → Prop} {w0 : World} {ρ0 : Env} {S : St} {a : Act} {w : World}

theorem strD_of {t : TypeId} (h : strD P t = true) : P.underlying t = some .string := by
  unfold strD at h
  split at h
  · assumption
  · cases h
theorem slD_of {t : TypeId} (h : slD P t = true) : ∃ e, P.underlying t = some (.slice e) := by
  unfold slD at h
  split at h
  · exact ⟨_, by assumption⟩
  · cases h

theorem asPtr_of {v : AV} {K : AA → Prop} (h : asPtr v K) : ∃ p, v = .c (.ptr p) ∧ K p := by
  unfold asPtr at h; split at h
  · exact ⟨_, rfl, h⟩
  · exact h.elim
theorem asB_of {v : AV} {K : Bool → Prop} (h : asB v K) : ∃ b, v = B b ∧ K b := by
  unfold asB at h; split at h
  · exact ⟨_, rfl, h⟩
  · exact h.elim
theorem asBG_of {γ : Bool} {v : AV} {K : Bool → Prop} (h : asBG γ v K) : ∃ b, (v = B b ∨ γ = false) ∧ K b ∧ ∀ K2 : Bool → Prop, K2 b → asBG γ v K2 := by
  unfold asBG at h; split at h
  · exact ⟨_, .inl rfl, h, fun _ h => h⟩
  · rename_i hn
    refine ⟨_, .inr h.1, h.2, fun K2 h2 => ?_⟩
    unfold asBG
    split
    · rename_i b; exact (hn b rfl).elim
    · exact ⟨h.1, h2⟩
theorem asI_of {v : AV} {K : Int → Prop} (h : asI v K) : ∃ k n, v = .c (.int k n) ∧ K n := by
  unfold asI at h; split at h
  · exact ⟨_, _, rfl, h⟩
  · exact h.elim
theorem asSl_of {v : AV} {K : AA → Nat → Nat → Prop} (h : asSl v K) : ∃ p n c, v = .c (.sl p n c) ∧ K p n c := by
  unfold asSl at h; split at h
  · exact ⟨_, _, _, rfl, h⟩
  · exact h.elim

theorem cutV_eq {ag : Bool} {off n : Nat} {cs : List AC} {vs : List Value} (hc : ∀ ρ, Agree S.look ρ0 ρ → Cells ρ cs vs) (hf : off + n ≤ cs.length) (h1 : ag = false → n = 1) :
    ∀ ρ, Agree S.look ρ0 ρ → (cut ag off n cs).Is ρ (if ag then .agg ((vs.drop off).take n).toArray else ((vs.drop off).take n).getD 0 undef) :=
  fun ρ hρ => cut_Is (cells_drop_take _ _ (hc ρ hρ)) hf h1

theorem cvP_of {s d : TypeId} {cv : Cv} (h : cvP P s d = some cv) :
    (∃ ks k, P.underlying s = some (.int ks) ∧ P.underlying d = some (.int k) ∧ cv = .int k) ∨ (P.underlying s = some .string ∧ P.underlying d = some .string ∧ cv = .str) ∨
    (∃ e, P.underlying s = some (.slice e) ∧ P.underlying d = some .string ∧ P.underlying e = some (.int .u8) ∧ cv = .b2s) ∨
    (∃ e, P.underlying s = some .string ∧ P.underlying d = some (.slice e) ∧ P.underlying e = some (.int .u8) ∧ cv = .s2b e) ∨
    (∃ e, P.underlying d = some (.slice e) ∧ s = d ∧ P.underlying e = some (.int .u8) ∧ cv = .own) := by
  unfold cvP at h
  split at h
  · rename_i h1 h2; exact .inl ⟨_, _, h1, h2, (Option.some.inj h).symm⟩
  · rename_i h1 h2; exact .inr (.inl ⟨h1, h2, (Option.some.inj h).symm⟩)
  · rename_i h1 h2
    split at h
    · rename_i h3; exact .inr (.inr (.inl ⟨_, h1, h2, h3, (Option.some.inj h).symm⟩))
    · cases h
  · rename_i h1 h2
    split at h
    · rename_i h3; exact .inr (.inr (.inr (.inl ⟨_, h1, h2, h3, (Option.some.inj h).symm⟩)))
    · cases h
  · rename_i h1 h2
    split at h
    · rename_i h4
      split at h
      · rename_i h3; exact .inr (.inr (.inr (.inr ⟨_, h2, h4, h3, (Option.some.inj h).symm⟩)))
      · cases h
    · cases h
  · cases h

theorem run_mark {b : Nat} {cur : Array Value} {ty : TypeId} {fr : Nat × Nat} (h : w.heap[b]? = some (.cells cur ty fr)) (o : Nat) :
    ∃ w', (markStringish ⟨b, o, none⟩).run P w = .ok () w' ∧ (∀ c, c ≠ b → w'.heap[c]? = w.heap[c]?) ∧ w'.heap.size = w.heap.size ∧ w'.os = w.os ∧ w'.tape = w.tape ∧ w'.output = w.output ∧ ∀ a, w'.cell? a = w.cell? a := by
  have hs : w.shape? b = some (ty, cur.size) := by simp [World.shape?, h]
  refine ⟨w.freeze ⟨b, cur.size, none⟩ 1, by simp [markStringish, hs], ?_⟩
  unfold World.freeze
  rw [if_neg (by decide)]
  refine ⟨fun c hc => by simp [Array.getElem?_modify, Ne.symm hc], by simp, rfl, rfl, rfl, fun a => ?_⟩
  simp only [World.cell?, Array.getElem?_modify]
  by_cases hb : b = a.block
  · subst hb
    rw [h]; simp
  · rw [if_neg hb]

theorem cvVC_int {k : IntKind} {v : AV} {K : Bool → AV → St → Prop} {γ : Bool} (h : cvVC S γ (.int k) v K) : ∃ k' n, v = .c (.int k' n) ∧ K γ (.c (.int k (k.wrap n))) S := by
  rcases v with x | xs | xs
  · cases x <;> first | exact ⟨_, _, rfl, h⟩ | exact (h : False).elim
  all_goals exact (h : False).elim
theorem cvVC_str {v : AV} {K : Bool → AV → St → Prop} {γ : Bool} (h : cvVC S γ .str v K) : ∃ s, v = .c (.str s) ∧ K γ (.c (.str s)) S := by
  rcases v with x | xs | xs
  · cases x <;> first | exact ⟨_, rfl, h⟩ | exact (h : False).elim
  all_goals exact (h : False).elim
theorem cvVC_s2b {e : TypeId} {v : AV} {K : Bool → AV → St → Prop} {γ : Bool} (h : cvVC S γ (.s2b e) v K) : ∃ s, v = .c (.str s) ∧ effVC S γ K fun K => ∀ c, s.size ≤ c → K (.c (.sl S.nx s.size c)) (S.alloc (.rows false e 1 [(c, s.data.toList.map fun b => [.int .u8 b.toNat])])) := by
  rcases v with x | xs | xs
  · cases x <;> first | exact ⟨_, rfl, h⟩ | exact (h : False).elim
  all_goals exact (h : False).elim
theorem cvVC_b2s {v : AV} {K : Bool → AV → St → Prop} {γ : Bool} (h : cvVC S γ .b2s v K) : ∃ p n c, v = .c (.sl p n c) ∧ ((n = 0 ∧ K γ (.c (.str .empty)) S) ∨ ∃ own ty sz cnt cap len get, S.look p.r = some (.arr own ty sz cnt cap len get) ∧ (sz = 1 ∧ p.f = 0 ∧ (γ = true → p.i < cnt ∧ p.k + n ≤ len p.i)) ∧
    ∃ s : List UInt8, (γ = true → s.length = n ∧ ∀ j, j < n → get p.i (p.k + j) = [.int .u8 (s.getD j 0).toNat]) ∧ K γ (.c (.str ⟨s.toArray⟩)) S) := by
  rcases v with x | xs | xs
  · cases x
    case sl p n c =>
      refine ⟨p, n, c, rfl, ?_⟩
      simp only [cvVC] at h
      split at h
      · rename_i hn; exact .inl ⟨hn, h⟩
      · split at h
        · rename_i hl; exact .inr ⟨_, _, _, _, _, _, _, hl, h⟩
        · exact h.elim
    all_goals exact (h : False).elim
  all_goals exact (h : False).elim
theorem cvVC_own {v : AV} {K : Bool → AV → St → Prop} {γ : Bool} (h : cvVC S γ .own v K) : ∃ p n c, v = .c (.sl p n c) ∧ effVC S γ K fun K => ∃ ty sz cnt cap len get, S.look p.r = some (.arr true ty sz cnt cap len get) ∧ (p.i < cnt ∧ 0 < cap p.i ∧ 0 < c) ∧ K (.c (.sl p n c)) (S.setRg p.r (.arr false ty sz cnt cap len get)) := by
  rcases v with x | xs | xs
  · cases x
    case sl p n c =>
      refine ⟨p, n, c, rfl, fun hγ => ?_, h.2⟩
      have h := h.1 hγ
      split at h
      · rename_i hl
        obtain ⟨⟨rfl, h1⟩, h2⟩ := h
        exact ⟨_, _, _, _, _, _, hl, h1, h2⟩
      · exact h.elim
    all_goals exact (h : False).elim
  all_goals exact (h : False).elim

theorem conv_sound {s d : TypeId} {cv : Cv} {v : AV} {u : Value} {K : Bool → AV → St → Prop} (hcv : cvP P s d = some cv) (hm : Mt W w0 ρ0 S a w) (h : cvVC S true cv v K) (hv : ∀ ρ, Agree S.look ρ0 ρ → v.Is ρ u) :
    ∃ x w', (convert s d u).run P w = .ok x w' ∧ Leaves W w0 ρ0 a K x w' := by
  have hv0 := hv ρ0 (Agree.refl _ _)
  rcases cvP_of hcv with ⟨ks, k, hs, hd, rfl⟩ | ⟨hs, hd, rfl⟩ | ⟨e, hs, hd, he, rfl⟩ | ⟨e, hs, hd, he, rfl⟩ | ⟨e, hd, rfl, he, rfl⟩
  · obtain ⟨k', n, rfl, hK⟩ := cvVC_int h
    obtain rfl := hv0
    exact ⟨.int k (k.wrap n), w, by simp [convert, run_underlying hs, run_underlying hd, Conv.intToInt], leaves_same hm hK fun _ _ => rfl⟩
  · obtain ⟨s', rfl, hK⟩ := cvVC_str h
    obtain rfl := hv0
    exact ⟨.string s', w, by simp [convert, run_underlying hs, run_underlying hd], leaves_same hm hK fun _ _ => rfl⟩
  · obtain ⟨p, n, c, rfl, hK⟩ := cvVC_b2s h
    obtain ⟨o, rfl, hnc, ho⟩ := hv0
    rcases hK with ⟨rfl, hK⟩ | ⟨own, ty, sz, cnt, cap, len, get, hl, ⟨rfl, hf, hik⟩, s', hs', hK⟩
    · refine ⟨.string .empty, w, ?_, leaves_same hm hK fun _ _ => rfl⟩
      cases o with
      | none => simp [convert, run_underlying hs, run_underlying hd, run_underlying he, Conv.bytesToString]
      | some ad =>
        have := run_convert_bytes_back (P := P) w s d e ad c [] hs he hd (fun j hj => absurd hj (by simp))
        exact this
    · obtain ⟨hi, hkn⟩ := hik rfl
      obtain ⟨hsl, hsg⟩ := hs' rfl
      obtain ⟨hl1, vs, hvl, hvc, hvI⟩ := read_row hm hl hi hf hkn
      refine ⟨.string ⟨s'.toArray⟩, w, ?_, leaves_same hm hK fun _ _ => rfl⟩
      rcases Nat.eq_zero_or_pos n with rfl | hn
      · obtain rfl := List.eq_nil_of_length_eq_zero hsl
        cases o with
        | none => simp [convert, run_underlying hs, run_underlying hd, run_underlying he, Conv.bytesToString]; rfl
        | some ad =>
          have := run_convert_bytes_back (P := P) w s d e ad c [] hs he hd (fun j hj => absurd hj (by simp))
          simpa using this
      · have hc : 0 < c := by omega
        · rw [ho hc, ← hsl]
          refine run_convert_bytes_back (P := P) w s d e _ c s' hs he hd fun j hj => ?_
          have hjn : j < n := by omega
          have h0 := hvI ρ0 (Agree.refl _ _)
          have hg := flat_get (f := fun k => get p.i (p.k + k)) (sz := 1) (m := n) hl1 j 0 hjn (by omega)
          rw [hsg j hjn] at hg
          obtain ⟨x, hx, hI⟩ := h0.get (j * 1 + 0) _ hg
          rw [Nat.mul_one, Nat.add_zero] at hx
          rw [hvc j x hx, hI]
          simp [List.getD, hj]
  · obtain ⟨s', rfl, hK⟩ := cvVC_s2b h
    obtain rfl := hv0
    have hrun := run_bytes_of_string (P := P) w s d e s' hs hd he
    have hge : s'.size ≤ grownCap w s'.size 0 e := grownCap_ge w s'.size 0 e
    refine ⟨_, _, hrun, alloc_leaves (s := 1) (Mt_drew hm) (hK.1 rfl _ hge) (fun i hi => by have : i < 1 := hi.1; omega) ?_ ?_⟩
    · intro ρ hρ hb hba hsz
      have hsz0 : s'.data.size = s'.size := rfl
      have hcur : (bytesRow s' (grownCap w s'.size 0 e)).toList.take s'.size = s'.data.toList.map fun b => Value.int .u8 b.toNat := by
        simp only [bytesRow, Array.toList_append, Array.toList_map]
        rw [List.take_append_of_le_length (by rw [List.length_map, Array.length_toList]; exact Nat.le_refl _)]
        exact List.take_of_length_le (by rw [List.length_map, Array.length_toList]; exact Nat.le_refl _)
      have hlen : (s'.data.toList.map fun b => Value.int .u8 b.toNat).length = s'.size := by rw [List.length_map, Array.length_toList]; rfl
      refine RegOk_le (RgLe_one (n := s'.size) (g := fun k => [.int .u8 ((s'.data.toList.getD k 0).toNat)]) (by rw [List.length_map, Array.length_toList]; exact Nat.le_refl _) fun k hk => by
        have hk' : k < s'.data.toList.length := by simpa using hk
        simp only [List.getD_eq_getElem?_getD, List.getElem?_map, List.getElem?_eq_getElem hk', Option.map_some, Option.getD_some]) ?_
      refine RegOk_row (get := fun k => [.int .u8 ((s'.data.toList.getD k 0).toNat)]) (heap_alloc_new w.drew _) (fun h => by cases h) hb hba hsz ?_ hge (fun _ _ => rfl) (vs := s'.data.toList.map fun b => Value.int .u8 b.toNat) (by rw [hlen]; exact hcur) ?_
      · unfold bytesRow
        rw [Array.size_append, Array.size_map, Array.size_replicate, hsz0]
        have : s'.size ≤ grownCap w s'.size 0 e := hge
        omega
      · refine Cells.of_get (by rw [hlen, flat_length (sz := 1) (fun _ _ => rfl), Nat.mul_one]) fun j c v hc hv => ?_
        have hj : j < s'.size := by have := (List.getElem?_eq_some_iff.1 hv).1; rwa [hlen] at this
        have := flat_get (f := fun k => [AC.int .u8 ((s'.data.toList.getD k 0).toNat)]) (sz := 1) (m := s'.size) (fun _ _ => rfl) j 0 hj (by omega)
        rw [Nat.mul_one, Nat.add_zero, hc] at this
        obtain rfl := Option.some.inj this
        have hj' : j < s'.data.toList.length := by rw [Array.length_toList]; exact hj
        rw [List.getElem?_map, List.getElem?_eq_getElem hj'] at hv
        obtain rfl := Option.some.inj hv
        simp only [AC.Is, List.getD, List.getElem?_eq_getElem hj', Option.getD_some]
    · intro ρ hb hba
      refine ⟨_, rfl, hge, fun _ => ?_⟩
      simp only [St.nx, conc_eq, hb, hba]
      simp
  · obtain ⟨p, n, c, rfl, hK⟩ := cvVC_own h
    obtain ⟨ty, sz, cnt, cap, len, get, hl, ⟨hi, hcap, hc⟩, hK⟩ := hK.1 rfl
    obtain ⟨o, rfl, hnc, ho⟩ := hv0
    have h0 := hm ρ0 (Agree.refl _ _)
    obtain ⟨hs0, hr⟩ := h0.mem.regs _ _ hl
    obtain ⟨hb, cur, hh, hcs⟩ := (hr _ hi).2.2 rfl hcap
    have hd' : p.conc ρ0 = ⟨ρ0.blk p.r p.i, ρ0.base p.r p.i + (p.k * ρ0.sz p.r + p.f), none⟩ := rfl
    obtain ⟨w', hmk, h1, h2, h3, h4, h5, h6⟩ := run_mark (P := P) hh (ρ0.base p.r p.i + (p.k * ρ0.sz p.r + p.f))
    refine ⟨.slice o n c, w', ?_, true, _, _, ρ0, hK, fun _ => Same.refl _ _, Mt_write hm (i0 := p.i) hl rfl ⟨hi, hcap⟩ h1 h2 h3 h4 h5 (fun h => by cases h) (fun _ => id) ?_, fun ρ hρ => ⟨fun _ => ?_, fun h => by cases h⟩⟩
    · rw [ho hc, hd']
      simp [convert, run_underlying hd, run_underlying he, hmk]
    · intro ρ hρ hreg _ _
      obtain ⟨hs1, hr1⟩ := hreg
      refine ⟨hs1, fun i hi => ⟨(hr1 i hi).1, fun k hk => ⟨((hr1 i hi).2.1 k hk).1, fun f d hd => ?_⟩, fun h => by cases h⟩⟩
      obtain ⟨v, e, q⟩ := ((hr1 i hi).2.1 k hk).2 f d hd
      exact ⟨v, by rw [h6]; exact e, q⟩
    · refine ⟨o, rfl, hnc, fun hc => ?_⟩
      have hsame := hρ p.r _ (by rw [look_setRg hl, if_pos rfl])
      rw [ho hc, AA.conc_same hsame]
end
end Go.Eng

namespace Go.Eng

section
variable {P : Program} {W : Nat → Prop} {w0 : World} {ρ0 : Env} {S : St} {a : Act} {w : World}

theorem newVar_run (t : TypeId) (v : Value) (w : World) : (newVar t v).run P w = .ok ⟨w.heap.size, 0, none⟩ (w.alloc (.cells v.cells t)) := by
  simp [newVar, newRow, newObj, Sem.run]

theorem box_ok {cs : List AC} {t : TypeId} {vs : Array Value} (hc : ∀ ρ, Agree S.look ρ0 ρ → Cells ρ cs vs.toList) (ρ : Env) (hρ : Agree S.look ρ0 ρ) (hb : ρ.blk (.loc S.loc.length) 0 = w.heap.size) (hba : ρ.base (.loc S.loc.length) 0 = 0) :
    RegOk ρ (.loc S.loc.length) (w.alloc (.cells vs t)) (.box t cs) :=
  ⟨hba, vs.toList, by rw [hb]; simpa using heap_alloc_new w (.cells vs t), hc ρ hρ⟩

theorem nx_ptr (ρ : Env) (hb : ρ.blk (.loc S.loc.length) 0 = w.heap.size) (hba : ρ.base (.loc S.loc.length) 0 = 0) : (AV.c (.ptr S.nx)).Is ρ (.pointer (some ⟨w.heap.size, 0, none⟩)) := by
  show Value.pointer _ = Value.pointer (some (AA.conc ρ S.nx))
  rw [conc_eq]
  simp [St.nx, hb, hba]

theorem cells_noTup {ρ : Env} {v : AV} {u : Value} (h : v.Is ρ u) (hn : v.noTup = true) : Cells ρ v.cells u.cells.toList := by
  cases v with
  | c x => exact AV.cells_Is h (.inl (by simp [AV.cells]))
  | agg xs => exact AV.cells_Is h (.inr ⟨xs, rfl⟩)
  | tup xs => cases hn

theorem zero_flat (z : Array Value) (n : Nat) : (Builtin.zeroCells z n).toList = (List.range n).flatMap fun _ => z.toList := made_eq z z.size rfl n
theorem wr_sound {p : AA} {sz m : Nat} {news : Nat → List AC} {K : St → Prop} (hm : Mt W w0 ρ0 S a w) (hm0 : 0 < m) (h : wrVC S p sz m news K) {nv : List Value} (hnl : nv.length = m * sz) (hlen : ∀ k, k < m → (news k).length = sz)
    (hnc : ∀ ρ, Agree S.look ρ0 ρ → Cells ρ (flat news m) nv) : ∃ S' w', K S' ∧ (storeCells (p.conc ρ0) nv).run P w = .ok () w' ∧ Mt W w0 ρ0 S' a w' := by
  unfold wrVC at h
  split at h
  · rename_i own ty sz' cnt cp len get hl
    obtain ⟨⟨rfl, rfl, hf, hpi, hlen0⟩, hK⟩ := h
    have h0 := hm ρ0 (Agree.refl _ _)
    obtain ⟨hs0, hr⟩ := h0.mem.regs _ _ hl
    have hlc := (hr _ hpi).1
    obtain ⟨cur, hh, hb, hoff, hmt⟩ := Mt_writeRow (n := 0) hm hl hm0 hpi (by omega) (by omega) hnl hlen hnc
    have hone := (hnc ρ0 (Agree.refl _ _)).oneCell
    refine ⟨_, _, hK, ?_, hmt⟩
    have hconc : p.conc ρ0 = ⟨ρ0.blk p.r p.i, p.k * sz', none⟩ := by rw [conc_eq, hs0, hb, hf]; simp
    have hst := run_storeCells_at P (ρ0.blk p.r p.i) (p.k * sz') ty nv 0 cur w hh (by simpa using hoff) hone
    rw [hconc]
    simpa using hst
  · exact h.elim

theorem bi_sound {b : Builtin} {ts : Array TypeId} {l : List AV} {vs : List Value} {K : Bool → AV → St → Prop} {ty : TypeId} {cs : Array Bool} (hm : Mt W w0 ρ0 S a w) (h : biVC P S true b ts.toList l K) (ha : ∀ ρ, Agree S.look ρ0 ρ → Args ρ l vs) :
    ∃ v w', (builtin b ts ty cs vs.toArray).run P w = .ok (.value v) w' ∧ Leaves W w0 ρ0 a K v w' := by
  have h0 := ha ρ0 (Agree.refl _ _)
  obtain ⟨tl, rfl⟩ : ∃ tl : List TypeId, ts = tl.toArray := ⟨ts.toList, by simp⟩
  rw [show tl.toArray.toList = tl from rfl] at h
  unfold biVC at h
  split at h
  · obtain ⟨u, us, rfl, hu, hr⟩ := Args_cons h0
    obtain rfl := Args_nil hr
    obtain ⟨o, rfl, hnc, ho⟩ := hu
    obtain ⟨e, he⟩ := slD_of h.1
    exact ⟨_, w, by simp [builtin, Builtin.len_, run_underlying he, goInt], leaves_same hm h.2 fun _ _ => rfl⟩
  · obtain ⟨u, us, rfl, hu, hr⟩ := Args_cons h0
    obtain rfl := Args_nil hr
    obtain rfl := hu
    exact ⟨_, w, by simp [builtin, Builtin.len_, run_underlying (strD_of (h.1 rfl)), goInt], leaves_same hm h.2 fun _ _ => rfl⟩
  · cases h.1
  · cases h.1
  · cases h.1
  · cases h.1
  · cases h.1
  · obtain ⟨u, us, rfl, hu, hr⟩ := Args_cons h0
    obtain rfl := Args_nil hr
    obtain ⟨o, rfl, hnc, ho⟩ := hu
    obtain ⟨e, he⟩ := slD_of h.1
    exact ⟨_, w, by simp [builtin, Builtin.cap_, run_underlying he, goInt], leaves_same hm h.2 fun _ _ => rfl⟩
  · obtain ⟨u, us, rfl, hu, hr⟩ := Args_cons h0
    obtain ⟨u', us', rfl, hu', hr'⟩ := Args_cons hr
    obtain rfl := Args_nil hr'
    obtain rfl := hu
    obtain rfl := hu'
    obtain ⟨rfl, hK⟩ := h
    exact ⟨_, w, by simp [builtin, run_min_int2], leaves_same hm hK fun _ _ => rfl⟩
  · obtain ⟨u, us, rfl, hu, hr⟩ := Args_cons h0
    obtain ⟨u', us', rfl, hu', hr'⟩ := Args_cons hr
    obtain rfl := Args_nil hr'
    obtain rfl := hu
    obtain rfl := hu'
    obtain ⟨rfl, hK⟩ := h
    exact ⟨_, w, by simp [builtin, run_max_int2], leaves_same hm hK fun _ _ => rfl⟩
  · rename_i p n c q m c' t t'
    obtain ⟨u, us, rfl, hu, hr⟩ := Args_cons h0
    obtain ⟨u', us', rfl, hu', hr'⟩ := Args_cons hr
    obtain rfl := Args_nil hr'
    obtain ⟨o, rfl, hnc, ho⟩ := hu
    obtain ⟨o', rfl, hmc, ho'⟩ := hu'
    obtain ⟨rfl, hz, hp⟩ := h.1 rfl
    rcases Nat.eq_zero_or_pos m with hm0 | hm0
    · subst hm0
      obtain ⟨hel, hK⟩ := hz rfl
      obtain ⟨⟨e, sz, by_⟩, hel⟩ := Option.isSome_iff_exists.1 hel
      obtain ⟨hun, i, hi, hisz, _⟩ := run_elP hel
      refine ⟨.slice o n c, w, ?_, leaves_same hm hK fun ρ hρ => ?_⟩
      · have hf : (Builtin.firstCells i.size 0 (.slice o' 0 c')).run P w = .ok #[] w := by
          cases o' with
          | none => simp [Builtin.firstCells]
          | some b => simp [Builtin.firstCells, loadCells, loadCellsFrom]
        cases o with
        | none => simp [builtin, Builtin.append_, run_underlying hun, sizeOf, typeInfo, hi, Builtin.lenOf, hnc, hf]
        | some b => simp [builtin, Builtin.append_, run_underlying hun, sizeOf, typeInfo, hi, Builtin.lenOf, hnc, hf, storeCells]
      · exact (ha ρ hρ).1
    · have hp := hp hm0
      split at hp
      · rename_i own ty' sz cnt cap len get hl
        obtain ⟨⟨hf, hi, hkm, hsz⟩, hA⟩ := hp
        obtain ⟨hlen, nv, hnl, hnv, hnv'⟩ := read_row hm hl hi hf hkm
        obtain rfl := ho' (by omega)
        obtain ⟨av, S', ρ1, v, w', hK, hout, hrun, hmt, hv⟩ := app_sound (ty := ty) hm hm0 hA hnc ho (tx := t) (xv := .slice (some (q.conc ρ0)) m c') hsz hnl hlen (ApX_slice hnv) hnv'
        exact ⟨v, w', by simp [builtin, hrun], true, av, S', ρ1, hK, hout, hmt, fun ρ hρ => ⟨fun _ => hv ρ hρ, fun h => by cases h⟩⟩
      · exact hp.elim
  · rename_i p n c kk x t t'
    obtain ⟨u, us, rfl, hu, hr⟩ := Args_cons h0
    obtain ⟨u', us', rfl, hu', hr'⟩ := Args_cons hr
    obtain rfl := Args_nil hr'
    obtain ⟨o, rfl, hnc, ho⟩ := hu
    obtain rfl := hu'
    have hp := h.1 rfl
    split at hp
    · rename_i e sz by_ hel
      split at hp
      · rename_i z hzz
        obtain ⟨⟨hzl, hsz0, hint, hx0⟩, hA⟩ := hp
        obtain ⟨m, rfl⟩ : ∃ m : Nat, x = m := ⟨x.toNat, by omega⟩
        simp only [Int.toNat_natCast] at hA
        have hm0 : 0 < m := by omega
        obtain ⟨hun, i, hi, hisz, _⟩ := run_elP hel
        obtain ⟨zv, i', hi', hiz, hzc, hzr⟩ := run_zeroP hzz
        obtain rfl : i' = i := by rw [hi] at hi'; exact (Option.some.inj hi').symm
        have hzs : zv.cells.size = sz := by have := (hzc ρ0).length; simpa [hzl] using this
        obtain ⟨kn, htx⟩ : ∃ kn, P.underlying t' = some (.int kn) := by
          unfold intD at hint
          split at hint
          · rename_i q hq; exact ⟨_, hq⟩
          · cases hint
        obtain ⟨av, S', ρ1, v, w', hK, hout, hrun, hmt, hv⟩ := app_sound (ty := ty) hm hm0 hA hnc ho (tx := t') (xv := .int kk m) (nv := (Builtin.zeroCells zv.cells m).toList) (sz := sz) (by rw [hel]; rfl) (by rw [Array.length_toList, size_zeroCells, hzs]) (fun _ _ => hzl) (ApX_zero htx hun hi hiz (by rw [hzs, hisz]) (by omega) hm0) fun ρ hρ => by
          rw [zero_flat zv.cells m]
          exact flat_const z (hzc ρ) m
        exact ⟨v, w', by simp [builtin, hrun], true, av, S', ρ1, hK, hout, hmt, fun ρ hρ => ⟨fun _ => hv ρ hρ, fun h => by cases h⟩⟩
      · exact hp.elim
    · exact hp.elim
  · rename_i p n c t
    obtain ⟨u, us, rfl, hu, hr⟩ := Args_cons h0
    obtain rfl := Args_nil hr
    obtain ⟨o, rfl, hnc, ho⟩ := hu
    obtain ⟨hz, hp⟩ := h.1 rfl
    rcases Nat.eq_zero_or_pos n with hn0 | hn0
    · subst hn0
      obtain ⟨hsl, hK⟩ := hz rfl
      obtain ⟨e, he⟩ := slD_of hsl
      refine ⟨.tuple #[], w, ?_, leaves_same hm hK fun _ _ => ⟨[], rfl, rfl, fun j b cs u e => by simp at e⟩⟩
      cases o <;> simp [builtin, Builtin.clear_, run_underlying he]
    · have hp := hp hn0
      split at hp
      · rename_i e sz by_ hel
        split at hp
        · rename_i z hzz
          obtain ⟨hzl, hw⟩ := hp
          obtain ⟨hun, i, hi, hisz, _⟩ := run_elP hel
          obtain ⟨zv, i', hi', hiz, hzc, hzr⟩ := run_zeroP hzz
          have hzs : zv.cells.size = sz := by have := (hzc ρ0).length; simpa [hzl] using this
          have hob := ho (by omega)
          subst hob
          obtain ⟨S', w', hK, hrun, hmt⟩ := wr_sound hm hn0 hw (nv := (Builtin.zeroCells zv.cells n).toList) (by rw [Array.length_toList, size_zeroCells, hzs]) (fun _ _ => hzl) fun ρ hρ => by
            rw [zero_flat zv.cells n]
            exact flat_const z (hzc ρ) n
          refine ⟨.tuple #[], w', ?_, true, _, S', ρ0, hK, fun _ => Same.refl _ _, hmt, fun _ _ => ⟨fun _ => ⟨[], rfl, rfl, fun j b cs u e => by simp at e⟩, fun h => by cases h⟩⟩
          obtain ⟨q, rfl⟩ : ∃ q, n = q + 1 := ⟨n - 1, by omega⟩
          simp [builtin, Builtin.clear_, run_underlying hun, hzr]
          rw [hrun]
          rfl
        · exact hp.elim
      · exact hp.elim
  · rename_i p n c q m c' t _
    obtain ⟨u, us, rfl, hu, hr⟩ := Args_cons h0
    obtain ⟨u', us', rfl, hu', hr'⟩ := Args_cons hr
    obtain rfl := Args_nil hr'
    obtain ⟨o, rfl, hnc, ho⟩ := hu
    obtain ⟨o', rfl, hmc, ho'⟩ := hu'
    obtain ⟨hz, hp⟩ := h.1 rfl
    rcases Nat.eq_zero_or_pos (min m n) with hn0 | hn0
    · obtain ⟨hel, hK⟩ := hz hn0
      obtain ⟨⟨e, sz, by_⟩, hel⟩ := Option.isSome_iff_exists.1 hel
      obtain ⟨hun, i, hi, hisz, _⟩ := run_elP hel
      refine ⟨.int .i64 0, w, ?_, leaves_same hm hK fun ρ hρ => rfl⟩
      have hn0' : Nat.min m n = 0 := hn0
      have hf : (Builtin.firstCells i.size 0 (.slice o' m c')).run P w = .ok #[] w := by
        cases o' with
        | none => simp [Builtin.firstCells]
        | some b => simp [Builtin.firstCells, loadCells, loadCellsFrom]
      cases o with
      | none => simp [builtin, Builtin.copy_, run_underlying hun, sizeOf, typeInfo, hi, Builtin.lenOf, hn0', hf, goInt]
      | some b => simp [builtin, Builtin.copy_, run_underlying hun, sizeOf, typeInfo, hi, Builtin.lenOf, hn0', hf, storeCells, goInt]
    · have hp := hp hn0
      split at hp
      · rename_i own ty' sz cnt cap len get hl
        obtain ⟨⟨hf, hi, hkm, hsz⟩, hA⟩ := hp
        obtain ⟨hlen, nv, hnl, hnv, hnv'⟩ := read_row hm hl hi hf hkm
        obtain rfl := ho' (by omega)
        obtain rfl := ho (by omega)
        obtain ⟨S', w', hK, hrun, hmt⟩ := wr_sound hm hn0 hA hnl hlen hnv'
        cases hel : elP P t with
        | none => simp [hel] at hsz
        | some es =>
          obtain ⟨e, sz', by_⟩ := es
          simp [hel] at hsz
          subst hsz
          obtain ⟨hun, i, hi, hisz, _⟩ := run_elP hel
          refine ⟨.int .i64 (min m n : Nat), w', ?_, true, _, S', ρ0, hK, fun _ => Same.refl _ _, hmt, fun _ _ => ⟨fun _ => rfl, fun h => by cases h⟩⟩
          have hmn : Nat.min m n = min m n := rfl
          have hfc : (Builtin.firstCells i.size (min m n) (.slice (some (q.conc ρ0)) m c')).run P w = .ok nv.toArray w := run_firstCells_some (P := P) w i.size (min m n) (q.conc ρ0) m c' nv (by rw [hisz]; exact hnl) hnv
          simp [builtin, Builtin.copy_, run_underlying hun, sizeOf, typeInfo, hi, Builtin.lenOf, hmn, hfc, goInt]
          rw [hrun]
          rfl
      · exact hp.elim
  · exact h.elim

theorem optI_map {x : Option Operand} {d n : Int} (h1 : x = none → n = d) (h2 : ∀ o, x = some o → ∃ k, a.eval o = .int k n) : (x.map a.eval = none → n = d) ∧ ∀ v, x.map a.eval = some v → ∃ k, v = .int k n := by
  cases x with
  | none => exact ⟨fun _ => h1 rfl, fun v h => by cases h⟩
  | some o =>
    obtain ⟨k, hk⟩ := h2 o rfl
    exact ⟨fun h => (by cases h), fun v h => ⟨k, by obtain rfl := Option.some.inj h; exact hk⟩⟩

theorem run_slice_sl {t e : TypeId} {i : TypeInfo} (hun : P.underlying t = some (.slice e)) (hi : P.info? e = some i) {o : Option Addr} {n c : Nat} {x y z : Option Value} {l h m : Nat} (hb : (Instr.sliceBounds true n c x y z).run P w = .ok (l, h, m) w) :
    (Instr.sliceAt t (.slice o n c) x y z).run P w = .ok (.slice (if m = l then o else o.map (·.add (l * i.size))) (h - l) (m - l)) w := by
  simp [Instr.sliceAt, Instr.slice, run_underlying hun, hb, sizeOf, typeInfo, hi]

theorem run_slice_str {t : TypeId} (hun : P.underlying t = some .string) {s : ByteArray} {x y : Option Value} {l h m : Nat} (hb : (Instr.sliceBounds false s.size s.size x y none).run P w = .ok (l, h, m) w) :
    (Instr.sliceAt t (.string s) x y none).run P w = .ok (.string (s.extract l h)) w := by
  simp [Instr.sliceAt, Instr.slice, run_underlying hun, hb]

theorem slice_Is {p : AA} {sz : Nat} {g : Rg} (hl : S.look p.r = some g) (hs : ∀ ρ, Agree S.look ρ0 ρ → ρ.sz p.r = sz) {o : Option Addr} {c l h m : Nat} (hc : ∀ ρ, Agree S.look ρ0 ρ → 0 < c → o = some (p.conc ρ)) (hlh : l ≤ h) (hhm : h ≤ m) (hmc : m ≤ c) :
    ∀ ρ, Agree S.look ρ0 ρ → (AV.c (.sl { p with k := p.k + l } (h - l) (m - l))).Is ρ (.slice (if m = l then o else o.map (·.add (l * sz))) (h - l) (m - l)) := by
  intro ρ hρ
  refine ⟨_, rfl, by omega, fun h0 => ?_⟩
  rw [if_neg (by omega), hc ρ hρ (by omega)]
  simp only [Option.map_some, conc_eq, Addr.add_lit, hs ρ hρ]
  congr 2
  rw [Nat.add_mul]; omega

theorem op_sound {C : List Contract} (hC : ∀ c ∈ C, SpecOK P c) {o : Oper} {K : Bool → AV → St → Prop} (hm : Mt W w0 ρ0 S a w) (h : opVC P C o.op S true K) {next : Act → World → Prop} {Q : Exit → Act → World → Prop}
    (hK : ∀ v w', Leaves W w0 ρ0 a K v w' → next (a.put o.dst v) w') : o.wp P a w next Q := by
  have hρ0 := Agree.refl S.look ρ0
  cases hop : o.op with
  | move x =>
    rw [hop] at h
    obtain ⟨v, h1, h2⟩ := rd_sound hm h
    exact wp_val (by simp [execOp, hop]) (hK _ _ (leaves_same hm h1 h2))
  | assign x =>
    rw [hop] at h
    obtain ⟨v, h1, h2⟩ := rd_sound hm h
    exact wp_val (by simp [execOp, hop]) (hK _ _ (leaves_same hm h1 h2))
  | pick c x y =>
    rw [hop] at h
    obtain ⟨v, h1, h2⟩ := rd_sound hm h
    obtain ⟨cb, rfl, h3⟩ := asB_of h1
    have hc : a.eval c = .bool cb := h2 ρ0 hρ0
    cases cb with
    | true =>
      obtain ⟨v1, h4, h5⟩ := rd_sound hm h3
      obtain ⟨b1, hv, h6, _⟩ := asBG_of h4
      obtain rfl := hv.resolve_right (by simp)
      obtain ⟨v2, h7⟩ := rd_false h6
      obtain ⟨b2, _, h8, _⟩ := asBG_of h7
      exact wp_val (v := a.eval x) (by simp [execOp, hop, hc, asBool]) (hK _ _ (leaves_same hm h8 h5))
    | false =>
      obtain ⟨v1, h4⟩ := rd_false h3
      obtain ⟨b1, _, h6, _⟩ := asBG_of h4
      obtain ⟨v2, h7, h5⟩ := rd_sound hm h6
      obtain ⟨b2, hv, h8, _⟩ := asBG_of h7
      obtain rfl := hv.resolve_right (by simp)
      exact wp_val (v := a.eval y) (by simp [execOp, hop, hc, asBool]) (hK _ _ (leaves_same hm h8 h5))
  | alloc t =>
    rw [hop] at h
    simp only [opVC] at h
    split at h
    · rename_i z hz
      obtain ⟨zv, i, hi, hiz, hzc, hzr⟩ := run_zeroP hz
      refine wp_val (w' := w.alloc (.cells zv.cells t)) (v := .pointer (some ⟨w.heap.size, 0, none⟩)) ?_ (hK _ _ (alloc_leaves (s := 0) hm (h.1 rfl) (fun i hi => hi) (fun ρ hρ hb hba _ => box_ok (fun ρ _ => hzc ρ) ρ hρ hb hba) (fun ρ hb hba => nx_ptr ρ hb hba)))
      simp [execOp, hop, Instr.alloc, hzr, newVar_run]
    · exact h.elim
  | box t x =>
    rw [hop] at h
    obtain ⟨v, ⟨hn, h1⟩, h2⟩ := rd_sound hm h
    refine wp_val (w' := w.alloc (.cells (a.eval x).cells t)) (v := .pointer (some ⟨w.heap.size, 0, none⟩)) ?_ (hK _ _ (alloc_leaves (s := 0) hm (h1.1 rfl) (fun i hi => hi) (fun ρ hρ hb hba _ => box_ok (fun ρ hρ => cells_noTup (h2 ρ hρ) hn) ρ hρ hb hba) (fun ρ hb hba => nx_ptr ρ hb hba)))
    simp [execOp, hop, Instr.box, newVar_run]
  | build t ps =>
    rw [hop] at h
    simp only [opVC] at h
    split at h
    · rename_i z l hz hl
      obtain ⟨ds, v, h1, h2, h3⟩ := run_build hz hl hm h
      exact wp_val (by simp only [execOp, hop, Sem.run_bind, h3, Result.andThen_ok, Sem.run_pure]) (hK _ _ (leaves_same hm h1 h2))
    · exact h.elim
  | buildSlice t n ps =>
    rw [hop] at h
    simp only [opVC] at h
    split at h
    · rename_i e sz by_ hel
      split at h
      · rename_i z hz
        obtain ⟨⟨hzl, hsz, hbig⟩, h⟩ := h
        split at h
        · rename_i hn0
          subst hn0
          obtain ⟨hps, h⟩ := h
          obtain ⟨l, us, hk, hl, hlen, hc, hrun⟩ := run_buildSlice (K := fun _ => True) hel hz hzl hsz hbig hm (parts := ps) (by rw [hps]; exact trivial)
          exact wp_val (v := .slice (some ⟨w.heap.size, 0, none⟩) 0 0) (w' := w.alloc (.cells us.toArray e)) (by simp only [execOp, hop, Sem.run_bind, hrun, Result.andThen_ok, Sem.run_pure]) (hK _ _ ⟨true, _, S, ρ0, h, fun _ => Same.refl _ _, Mt_more hm _, fun ρ hρ => ⟨fun _ => ⟨_, rfl, Nat.le_refl _, fun h => absurd h (by omega)⟩, fun h => by cases h⟩⟩)
        obtain ⟨l, us, hk, hl, hlen, hc, hrun⟩ := run_buildSlice hel hz hzl hsz hbig hm h
        have hgl : ∀ k, k < n → ((fun k => l.getD k []) k).length = sz := fun k hk => by
          have : l[k]? = some l[k] := List.getElem?_eq_getElem (by omega)
          simp only [List.getD, this, Option.getD_some]
          exact hlen k _ this
        have husl : us.length = n * sz := by rw [(hc ρ0 hρ0).length, flat_length hgl]
        refine wp_val (v := .slice (some ⟨w.heap.size, 0, none⟩) n n) (w' := w.alloc (.cells us.toArray e)) (by simp only [execOp, hop, Sem.run_bind, hrun, Result.andThen_ok, Sem.run_pure]) (hK _ _ (alloc_leaves (s := sz) hm (hk.1 rfl) (fun i hi => by have : i < 1 := hi.1; omega) (fun ρ hρ hb hba hs => ?_) (fun ρ hb hba => ?_)))
        · refine RegOk_le (RgLe_one (n := n) (g := fun k => l.getD k []) (Nat.le_of_eq hl) fun _ _ => rfl) ?_
          exact RegOk_row (get := fun k => l.getD k []) (vs := us) (heap_alloc_new w _) (fun _ => rfl) hb hba hs (by simpa using husl) (Nat.le_refl _) hgl (by simp) (hc ρ hρ)
        · exact ⟨_, rfl, Nat.le_refl _, fun _ => by simp [St.nx, conc_eq, hb, hba]⟩
      · exact h.elim
    · exact h.elim
  | load t x =>
    rw [hop] at h
    obtain ⟨v, h1, h2⟩ := rd_sound hm h
    obtain ⟨p, rfl, h3⟩ := asPtr_of h1
    have hx : a.eval x = .pointer (some (p.conc ρ0)) := h2 ρ0 hρ0
    obtain ⟨v, u, h4, h5, h6⟩ := load_sound (P := P) hm h3
    exact wp_val (by simp only [execOp, hop, hx, Sem.run_bind, h5, Result.andThen_ok, Sem.run_pure]) (hK _ _ (leaves_same hm h4 h6))
  | store t x y =>
    rw [hop] at h
    obtain ⟨v, h1, h2⟩ := rd_sound hm h
    obtain ⟨p, rfl, h3⟩ := asPtr_of h1
    have hx : a.eval x = .pointer (some (p.conc ρ0)) := h2 ρ0 hρ0
    obtain ⟨v, h4, h5⟩ := rd_sound hm h3
    obtain ⟨w', S', h6, h7, h8⟩ := store_sound hm (h4.1 rfl) h5
    exact wp_skp (by simp only [execOp, hop, hx, Sem.run_bind, h7, Result.andThen_ok, Sem.run_pure]) (hK _ _ ⟨false, _, S', ρ0, h6, fun _ => Same.refl _ _, h8, fun _ _ => ⟨(fun h => by cases h), fun _ => rfl⟩⟩)
  | nilCheck x =>
    rw [hop] at h
    obtain ⟨v, h1, h2⟩ := rd_sound hm h
    obtain ⟨p, rfl, h3⟩ := asPtr_of h1
    have hx : a.eval x = .pointer (some (p.conc ρ0)) := h2 ρ0 hρ0
    exact wp_val (v := a.eval x) (by simp [execOp, hop, hx]) (hK _ _ (leaves_same hm h3 h2))
  | binOp op t x y ty =>
    rw [hop] at h
    simp only [opVC] at h
    split at h
    · rename_i hn
      have hy : a.eval y = .slice none 0 0 := by
        unfold nilO at hn
        split at hn
        · rfl
        · cases hn
      obtain ⟨v1, h1, h2⟩ := rd_sound hm h
      obtain ⟨v, u, h5, h6, h7⟩ := run_nil (w := w) (x := x) (y := y) h1 (h2 ρ0 hρ0)
      exact wp_val (by simp only [execOp, hop]; rw [Sem.run_bind, hy, h6]; simp) (hK _ _ (leaves_same hm h5 fun ρ _ => h7 ρ))
    obtain ⟨v1, h1, h2⟩ := rd_sound hm h
    obtain ⟨v2, h3, h4⟩ := rd_sound hm h1
    obtain ⟨v, u, h5, h6, h7⟩ := run_bin (w := w) (x := x) (y := y) h3 (h2 ρ0 hρ0) (h4 ρ0 hρ0)
    exact wp_val (by simp only [execOp, hop]; rw [Sem.run_bind, h6]; simp) (hK _ _ (leaves_same hm h5 fun ρ _ => h7 ρ))
  | unOp op t x =>
    rw [hop] at h
    obtain ⟨v1, h1, h2⟩ := rd_sound hm h
    obtain ⟨v, u, h5, h6, h7⟩ := run_un (P := P) (w := w) h1 (h2 ρ0 hρ0)
    exact wp_val (by simp only [execOp, hop, Sem.run_bind, h6, Result.andThen_ok, Sem.run_pure]) (hK _ _ (leaves_same hm h5 fun ρ _ => h7 ρ))
  | convert s d x =>
    rw [hop] at h
    obtain ⟨v1, h1, h2⟩ := rd_sound hm h
    split at h1
    · rename_i cv hcv
      obtain ⟨u, w', h3, h4⟩ := conv_sound hcv hm h1 h2
      exact wp_val (by simp only [execOp, hop, Sem.run_bind, h3, Result.andThen_ok, Sem.run_pure]) (hK _ _ h4)
    · exact h1.elim
  | makeSlice t l c =>
    rw [hop] at h
    simp only [opVC] at h
    split at h
    · rename_i e sz by_ hel
      split at h
      · rename_i z hz
        obtain ⟨vl, h1, h2⟩ := rd_sound hm h
        obtain ⟨kl, nl, rfl, h3⟩ := asI_of h1
        obtain ⟨vc, h4, h5⟩ := rd_sound hm h3
        obtain ⟨kc, nc, rfl, h6⟩ := asI_of h4
        obtain ⟨⟨hzl, hl0, hlc, hc63, hby⟩, hk⟩ := h6.1 rfl
        obtain ⟨hun, i, hi, hisz, hiby⟩ := run_elP hel
        obtain ⟨zv, i', hi', hiz, hzc, hzr⟩ := run_zeroP hz
        obtain rfl : i = i' := by rw [hi] at hi'; exact Option.some.inj hi'
        have hzs : zv.cells.size = sz := by have := (hzc ρ0).length; simpa [hzl] using this
        have hel' : a.eval l = .int kl nl := h2 ρ0 hρ0
        have hec : a.eval c = .int kc nc := h5 ρ0 hρ0
        have hrun := run_make (P := P) w t e i zv hun hi hiz kl kc nl nc hl0 hlc (by rw [hiby]; omega) hc63
        rw [hisz] at hrun
        have hmade := made_eq zv.cells sz hzs nc.toNat
        refine wp_val (v := .slice (some ⟨w.heap.size, 0, none⟩) nl.toNat nc.toNat) (w' := w.alloc (.cells (madeCells zv.cells (nc.toNat * sz)) e)) (by simp only [execOp, hop, hel', hec, Sem.run_bind, hrun, Result.andThen_ok, Sem.run_pure]) (hK _ _ (alloc_leaves (s := sz) hm hk (fun i hi => by have : i < 1 := hi.1; omega) (fun ρ hρ hb hba hs => ?_) (fun ρ hb hba => ?_)))
        · refine RegOk_le (RgLe_one (n := nc.toNat) (g := fun _ => z) (by simp) fun k hk => by
            have hk' : k < nc.toNat := by simpa using hk
            simp [List.getD_eq_getElem?_getD, hk']) ?_
          refine RegOk_row (get := fun _ => z) (vs := (madeCells zv.cells (nc.toNat * sz)).toList) (heap_alloc_new w _) (fun _ => rfl) hb hba hs (size_madeCells _ _) (Nat.le_refl _) (fun _ _ => hzl) (List.take_of_length_le (Nat.le_refl _)) ?_
          have : (madeCells zv.cells (nc.toNat * sz)).toList = (List.range nc.toNat).flatMap fun _ => zv.cells.toList := hmade
          rw [this]
          exact flat_const z (hzc ρ) _
        · exact ⟨_, rfl, by omega, fun _ => by simp [St.nx, conc_eq, hb, hba]⟩
      · exact h.elim
    · exact h.elim
  | fieldAddr t x j =>
    rw [hop] at h
    obtain ⟨v, h1, h2⟩ := rd_sound hm h
    obtain ⟨p, rfl, h3⟩ := asPtr_of h1
    split at h3
    · rename_i off ag n hf
      have hx : a.eval x = .pointer (some (p.conc ρ0)) := h2 ρ0 hρ0
      have hrun := run_fldP hf (ρ0.blk p.r p.i) (ρ0.base p.r p.i + (p.k * ρ0.sz p.r + p.f)) w
      refine wp_val (v := .pointer (some ⟨ρ0.blk p.r p.i, ρ0.base p.r p.i + (p.k * ρ0.sz p.r + p.f) + off, none⟩)) (by simp only [execOp, hop, hx, conc_eq, Sem.run_bind, hrun, Result.andThen_ok, Sem.run_pure]) (hK _ _ (leaves_same hm h3 fun ρ hρ => ?_))
      have h4 := h2 ρ hρ
      rw [hx] at h4
      have h5 : p.conc ρ0 = p.conc ρ := by
        have : Value.pointer (some (p.conc ρ0)) = Value.pointer (some (p.conc ρ)) := h4
        simpa using this
      simp only [conc_eq, Addr.mk.injEq, and_true] at h5
      show Value.pointer _ = Value.pointer _
      simp only [conc_eq]
      rw [h5.1, h5.2]
      congr 3
      omega
    · exact h3.elim
  | field t x j =>
    rw [hop] at h
    obtain ⟨v, h1, h2⟩ := rd_sound hm h
    split at h1
    · rename_i cs off ag n hf
      obtain ⟨⟨hfit, h1n⟩, h3⟩ := h1
      obtain ⟨vs, hx, _⟩ := h2 ρ0 hρ0
      have hc : ∀ ρ, Agree S.look ρ0 ρ → Cells ρ cs vs := fun ρ hρ => by
        obtain ⟨vs', hx', hc'⟩ := h2 ρ hρ
        rw [hx] at hx'
        obtain rfl : vs = vs' := by simpa using hx'
        exact hc'
      have hvl := (hc ρ0 hρ0).length
      have hcut := cutV_eq hc hfit h1n
      refine wp_val (w' := w) (v := if ag then .agg ((vs.drop off).take n).toArray else ((vs.drop off).take n).getD 0 undef) ?_ (hK _ _ (leaves_same hm h3 hcut))
      unfold fldP at hf
      split at hf
      · rename_i fs hd
        split at hf
        · rename_i f hfj
          split at hf
          · rename_i ag' n' hsz
            simp only [Option.some.injEq, Prod.mk.injEq] at hf
            obtain ⟨rfl, rfl, rfl⟩ := hf
            obtain ⟨ha, hs⟩ := run_szP hsz w
            cases ag' with
            | true =>
              simp [execOp, hop, hx, Instr.field, run_underlying hd, hfj, asAgg, part, ha, hs]
            | false =>
              have hn := h1n rfl
              have hlt : f.offset < vs.length := by omega
              simp [execOp, hop, hx, Instr.field, run_underlying hd, hfj, asAgg, part, ha, List.getElem?_eq_getElem hlt, List.getD, hn]
          · cases hf
        · cases hf
      · cases hf
    · exact h1.elim
  | indexAddr t x y =>
    rw [hop] at h
    obtain ⟨v, h1, h2⟩ := rd_sound hm h
    obtain ⟨p, n, c, rfl, h3⟩ := asSl_of h1
    obtain ⟨vj, h4, h5⟩ := rd_sound hm h3
    obtain ⟨kj, j, rfl, h6⟩ := asI_of h4
    split at h6
    · rename_i e sz by_ own ty sz' cnt cap len get hel hl
      obtain ⟨⟨rfl, hj⟩, h7⟩ := h6
      obtain ⟨hj0, hjn⟩ := hj rfl
      obtain ⟨o', hx, hnc, ho⟩ := h2 ρ0 hρ0
      have hy : a.eval y = .int kj j := h5 ρ0 hρ0
      obtain ⟨hun, i, hi, hisz, _⟩ := run_elP hel
      have h0 := hm ρ0 hρ0
      have hs0 := (h0.mem.regs _ _ hl).1
      obtain rfl := ho (by omega)
      have hsz : (sizeOf e).run P w = .ok sz w := by simp [sizeOf, typeInfo, hi, hisz]
      refine wp_val (w' := w) (v := .pointer (some ((p.conc ρ0).add (j.toNat * sz)))) ?_ (hK _ _ (leaves_same hm h7 fun ρ hρ => ?_))
      · simp [execOp, hop, hx, hy, Instr.indexAt, asIntOf, run_underlying hun, hj0, hjn, hsz]
      · have hsame := hρ _ _ hl
        show Value.pointer _ = Value.pointer _
        rw [conc_eq, conc_eq, Addr.add_lit, hs0]
        simp only [hsame.blk, hsame.base, ← hsame.sz, hs0]
        congr 3
        rw [Nat.add_mul]; omega
    · exact h6.elim
  | index t x y =>
    rw [hop] at h
    obtain ⟨v, h1, h2⟩ := rd_sound hm h
    obtain ⟨vj, h4, h5⟩ := rd_sound hm h1
    obtain ⟨kj, j, rfl, h6⟩ := asI_of h4
    split at h6
    · rename_i s
      obtain ⟨⟨ht, hj⟩, h7⟩ := h6
      obtain ⟨hj0, hjn⟩ := hj rfl
      have hx : a.eval x = .string s := h2 ρ0 hρ0
      have hy : a.eval y = .int kj j := h5 ρ0 hρ0
      have hlt : j.toNat < s.size := by omega
      have hlt' : j.toNat < s.data.toList.length := by rw [Array.length_toList]; exact hlt
      refine wp_val (w' := w) (v := .int .u8 ((s.data.toList.getD j.toNat 0).toNat)) ?_ (hK _ _ (leaves_same hm h7 fun _ _ => rfl))
      have hg : s[j.toNat]? = some s[j.toNat] := by simp [hlt]
      have he : s.data.toList.getD j.toNat 0 = s[j.toNat] := by
        rw [List.getD, List.getElem?_eq_getElem hlt', Option.getD_some, Array.getElem_toList]; rfl
      rw [he]
      simp [execOp, hop, hx, hy, Instr.index, asIntOf, run_underlying (strD_of ht), hj0, hg]
    · exact h6.elim
  | extract x j =>
    rw [hop] at h
    obtain ⟨v, h1, h2⟩ := rd_sound hm h
    split at h1
    · rename_i l
      obtain ⟨vs, hx, hl, hvs⟩ := h2 ρ0 hρ0
      have hall : ∀ ρ, Agree S.look ρ0 ρ → ∀ (j : Nat) (b : Bool) (cs : List AC) (u : Value), l[j]? = some (b, cs) → vs[j]? = some u → (if b then ∃ us, u = .agg us.toArray ∧ Cells ρ cs us else ∃ c, cs = [c] ∧ c.Is ρ u) := fun ρ hρ => by
        obtain ⟨vs', hx', _, hvs'⟩ := h2 ρ hρ
        rw [hx] at hx'
        obtain rfl : vs = vs' := by simpa using hx'
        exact hvs'
      split at h1
      · rename_i cs hlj
        have hjl := (List.getElem?_eq_some_iff.1 hlj).1
        have hv : vs[j]? = some vs[j] := List.getElem?_eq_getElem (by omega)
        refine wp_val (w' := w) (v := vs[j]) ?_ (hK _ _ (leaves_same hm h1 fun ρ hρ => hall ρ hρ j true cs _ hlj hv))
        simp [execOp, hop, hx, Instr.extract, hv]
      · rename_i c hlj
        have hjl := (List.getElem?_eq_some_iff.1 hlj).1
        have hv : vs[j]? = some vs[j] := List.getElem?_eq_getElem (by omega)
        refine wp_val (w' := w) (v := vs[j]) ?_ (hK _ _ (leaves_same hm h1 fun ρ hρ => ?_))
        · simp [execOp, hop, hx, Instr.extract, hv]
        · obtain ⟨d, e, hd⟩ := hall ρ hρ j false [c] _ hlj hv
          obtain rfl : c = d := by simpa using e
          exact hd
      · exact h1.elim
    · exact h1.elim
  | slice t x lo hi mx =>
    rw [hop] at h
    have hrunw : ∀ v, (Instr.sliceAt t (a.eval x) (lo.map a.eval) (hi.map a.eval) (mx.map a.eval)).run P w = .ok v w → (execOp a.eval o).run P w = .ok (.value v) w := fun v hv => by
      simp only [execOp, hop, Sem.run_bind, hv, Result.andThen_ok, Sem.run_pure]
    cases mx with
    | none =>
      obtain ⟨v, h1, h2⟩ := rd_sound hm h
      split at h1
      · rename_i p n c
        have hx : ∃ o, a.eval x = .slice o n c := by obtain ⟨o, e, _⟩ := h2 ρ0 hρ0; exact ⟨o, e⟩
        obtain ⟨o', hx⟩ := hx
        have hc : ∀ ρ, Agree S.look ρ0 ρ → n ≤ c ∧ (0 < c → o' = some (p.conc ρ)) := fun ρ hρ => by
          obtain ⟨o2, e, h3, h4⟩ := h2 ρ hρ
          rw [hx] at e
          obtain rfl : o' = o2 := by simpa using e
          exact ⟨h3, h4⟩
        split at h1
        · rename_i e sz by_ own ty sz' cnt cap len get hel hl
          obtain ⟨rfl, h1⟩ := h1
          obtain ⟨hun, i, hi', hisz, _⟩ := run_elP hel
          obtain ⟨l, h3, h4, h5⟩ := optI_sound hm h1
          obtain ⟨hh, h6, h7, h8⟩ := optI_sound hm h3
          obtain ⟨hcond, hk⟩ := h6
          obtain ⟨b1, b2, b3⟩ := hcond rfl
          have ml := optI_map h4 h5
          have mh := optI_map h7 h8
          have hb := run_bounds2 (P := P) (w := w) (sl := true) (n := n) ml.1 ml.2 mh.1 mh.2 b1 b2 b3
          have hrun := run_slice_sl (o := o') hun hi' hb
          rw [hisz] at hrun
          refine wp_val (hrunw _ (by rw [hx]; exact hrun)) (hK _ _ (leaves_same hm hk fun ρ hρ => ?_))
          exact slice_Is hl (fun ρ hρ => ((hm ρ hρ).mem.regs _ _ hl).1) (fun ρ hρ => (hc ρ hρ).2) (by omega) (by omega) (Nat.le_refl _) ρ hρ
        · rename_i e he hno
          obtain ⟨⟨e, sz, by_⟩, hel⟩ : ∃ q, elP P t = some q := ⟨_, by assumption⟩
          obtain ⟨hun, i, hi', hisz, _⟩ := run_elP hel
          obtain ⟨l, h3, h4, h5⟩ := optI_sound hm h1
          obtain ⟨hh, h6, h7, h8⟩ := optI_sound hm h3
          obtain ⟨hcond, hk⟩ := h6
          obtain ⟨rfl, rfl, rfl⟩ := hcond rfl
          have ml := optI_map h4 h5
          have mh := optI_map h7 h8
          have hb := run_bounds2 (P := P) (w := w) (sl := true) (n := n) (c := 0) ml.1 ml.2 mh.1 mh.2 (by omega) (by omega) (by omega)
          have hrun := run_slice_sl (o := o') hun hi' hb
          refine wp_val (v := .slice o' 0 0) (hrunw _ (by rw [hx]; simpa using hrun)) (hK _ _ (leaves_same hm hk fun ρ hρ => ?_))
          exact ⟨o', rfl, Nat.le_refl _, fun h => absurd h (by omega)⟩
        · exact h1.elim
      · rename_i s
        have hx : a.eval x = .string s := h2 ρ0 hρ0
        obtain ⟨ht, h1⟩ := h1
        obtain ⟨l, h3, h4, h5⟩ := optI_sound hm h1
        obtain ⟨hh, h6, h7, h8⟩ := optI_sound hm h3
        obtain ⟨hcond, hk⟩ := h6
        obtain ⟨b1, b2, b3⟩ := hcond rfl
        have ml := optI_map h4 h5
        have mh := optI_map h7 h8
        have hb := run_bounds2 (P := P) (w := w) (sl := false) (n := s.size) ml.1 ml.2 mh.1 mh.2 b1 b2 b3
        exact wp_val (hrunw _ (by rw [hx]; exact run_slice_str (strD_of ht) hb)) (hK _ _ (leaves_same hm hk fun ρ _ => rfl))
      · exact h1.elim
    | some mx =>
      cases hi with
      | none => exact (h : False).elim
      | some hi =>
        obtain ⟨v, h1, h2⟩ := rd_sound hm h
        obtain ⟨p, n, c, rfl, hz⟩ := asSl_of h1
        have hx : ∃ o, a.eval x = .slice o n c := by obtain ⟨o, e, _⟩ := h2 ρ0 hρ0; exact ⟨o, e⟩
        obtain ⟨o', hx⟩ := hx
        have hc : ∀ ρ, Agree S.look ρ0 ρ → n ≤ c ∧ (0 < c → o' = some (p.conc ρ)) := fun ρ hρ => by
          obtain ⟨o2, e, h3, h4⟩ := h2 ρ hρ
          rw [hx] at e
          obtain rfl : o' = o2 := by simpa using e
          exact ⟨h3, h4⟩
        split at hz
        · rename_i e sz by_ own ty sz' cnt cap len get hel hl
          obtain ⟨rfl, hz⟩ := hz
          obtain ⟨hun, i, hi', hisz, _⟩ := run_elP hel
          obtain ⟨l, h3, h4, h5⟩ := optI_sound hm hz
          obtain ⟨vh, h6, h7⟩ := rd_sound hm h3
          obtain ⟨kh, hh, rfl, h8⟩ := asI_of h6
          obtain ⟨vm, h9, h10⟩ := rd_sound hm h8
          obtain ⟨km, mm, rfl, h11⟩ := asI_of h9
          obtain ⟨hcond, hk⟩ := h11
          obtain ⟨b1, b2, b3, b4⟩ := hcond rfl
          have ml := optI_map h4 h5
          have hb := run_bounds3 (P := P) (w := w) (n := n) ml.1 ml.2 (h7 ρ0 hρ0) (h10 ρ0 hρ0) b1 b2 b3 b4
          have hrun := run_slice_sl (o := o') hun hi' hb
          rw [hisz] at hrun
          refine wp_val (hrunw _ (by rw [hx]; exact hrun)) (hK _ _ (leaves_same hm hk fun ρ hρ => ?_))
          exact slice_Is hl (fun ρ hρ => ((hm ρ hρ).mem.regs _ _ hl).1) (fun ρ hρ => (hc ρ hρ).2) (by omega) (by omega) (by omega) ρ hρ
        · obtain ⟨⟨e, sz, by_⟩, hel⟩ : ∃ q, elP P t = some q := ⟨_, by assumption⟩
          obtain ⟨hun, i, hi', hisz, _⟩ := run_elP hel
          obtain ⟨l, h3, h4, h5⟩ := optI_sound hm hz
          obtain ⟨vh, h6, h7⟩ := rd_sound hm h3
          obtain ⟨kh, hh, rfl, h8⟩ := asI_of h6
          obtain ⟨vm, h9, h10⟩ := rd_sound hm h8
          obtain ⟨km, mm, rfl, h11⟩ := asI_of h9
          obtain ⟨hcond, hk⟩ := h11
          obtain ⟨rfl, rfl, rfl, rfl⟩ := hcond rfl
          have ml := optI_map h4 h5
          have hb := run_bounds3 (P := P) (w := w) (n := n) (c := 0) ml.1 ml.2 (h7 ρ0 hρ0) (h10 ρ0 hρ0) (by omega) (by omega) (by omega) (by omega)
          have hrun := run_slice_sl (o := o') hun hi' hb
          refine wp_val (v := .slice o' 0 0) (hrunw _ (by rw [hx]; simpa using hrun)) (hK _ _ (leaves_same hm hk fun ρ hρ => ?_))
          exact ⟨o', rfl, Nat.le_refl _, fun h => absurd h (by omega)⟩
        · exact hz.elim
  | call c =>
    rw [hop] at h
    obtain ⟨callee, args, ats⟩ := c
    cases callee with
    | value f =>
      obtain ⟨v, h1, h2⟩ := rd_sound hm h
      split at h1
      · rename_i g caps
        obtain ⟨l, h3, _, h5⟩ := rds_sound hm h1
        have hf : a.eval f = .func (.func g) #[] (caps.map fun a => Value.pointer (some (a.conc ρ0))).toArray := h2 ρ0 hρ0
        have hcaps : ∀ ρ, Agree S.look ρ0 ρ → Args ρ (caps.map fun a => .c (.ptr a)) (caps.map fun a => Value.pointer (some (a.conc ρ0))) := fun ρ hρ => by
          have h6 := h2 ρ hρ
          rw [hf] at h6
          have h7 : (caps.map fun a => Value.pointer (some (a.conc ρ0))) = caps.map fun a => Value.pointer (some (a.conc ρ)) := by
            have : Value.func (.func g) #[] (caps.map fun a => Value.pointer (some (a.conc ρ0))).toArray = Value.func (.func g) #[] (caps.map fun a => Value.pointer (some (a.conc ρ))).toArray := h6
            simpa using this
          rw [h7]
          have : ∀ l : List AA, Args ρ (l.map fun a => .c (.ptr a)) (l.map fun a => Value.pointer (some (a.conc ρ))) := by
            intro l
            induction l with
            | nil => trivial
            | cons x r ih => exact ⟨rfl, ih⟩
          exact this caps
        rcases callVC_sound hC hm h3 (vs := args.toList.map a.eval ++ caps.map fun a => Value.pointer (some (a.conc ρ0))) (fun ρ hρ => Args_append (h5 ρ hρ) (hcaps ρ hρ)) with ⟨hfn, hcalls⟩ | ⟨v, hv, hl⟩
        rotate_left
        · refine wp_val (v := v) (w' := w) ?_ (hK _ _ hl)
          simp only [execOp, hop, resolve, hf, Deferred.ofValue, Sem.run_bind, Sem.run_pure, Result.andThen_ok, invoke, Array.empty_append]
          rw [← hv]
          congr 2
          simp
        unfold Oper.wp
        have hrun : (execOp a.eval o).run P w = .ok (.enter g (args.toList.map a.eval ++ caps.map fun a => Value.pointer (some (a.conc ρ0))).toArray) w := by
          simp only [execOp, hop, resolve, hf, Deferred.ofValue, Sem.run_bind, Sem.run_pure, Result.andThen_ok, invoke, Array.empty_append]
          rw [run_callFunc hfn]
          congr 2
          simp
        rw [hrun]
        refine hcalls.mono ?_
        rintro e w' ⟨v, rfl, hl⟩
        exact hK v w' hl
      · exact h1.elim
    | builtin b =>
      obtain ⟨l, h3, _, h5⟩ := rds_sound hm h
      obtain ⟨v, w', h6, h7⟩ := bi_sound (ty := o.type) (cs := args.map fun | .const _ => true | _ => false) hm h3 h5
      refine wp_val (v := v) (w' := w') ?_ (hK _ _ h7)
      simp only [execOp, hop, resolve, Sem.run_bind, Sem.run_pure, Result.andThen_ok, invoke]
      rw [show args.map a.eval = (args.toList.map a.eval).toArray from by rw [← Array.toArray_toList (xs := args.map a.eval), Array.toList_map]]
      exact h6
    | invoke r nm => exact (h : False).elim
  | makeFunc fn first captured =>
    rw [hop] at h
    cases fn with
    | func f =>
      simp only [opVC] at h
      split at h
      · rename_i hfirst
        obtain rfl : first = #[] := by simpa using hfirst
        obtain ⟨l, h3, hll, h5⟩ := rds_sound hm h
        split at h3
        · rename_i ps hps
          have hall : ∀ (l : List AV) (ps : List AA), (l.mapM fun | AV.c (.ptr p) => some p | _ => none) = some ps → l = ps.map fun p => .c (.ptr p) := by
            intro l
            induction l with
            | nil => intro ps h; simp at h; subst h; rfl
            | cons x r ih =>
              intro ps h
              simp only [List.mapM_cons] at h
              split at h
              · rename_i p
                cases hr : (r.mapM fun | AV.c (.ptr p) => some p | _ => none : Option (List AA)) with
                | none => simp [hr] at h
                | some ps' =>
                  simp [hr] at h
                  subst h
                  rw [ih ps' hr]; rfl
              · simp at h
          obtain rfl := hall l ps hps
          refine wp_val (w' := w) (v := .func (.func f) #[] (captured.map a.eval)) (by simp [execOp, hop, Instr.makeFunc]) (hK _ _ (leaves_same hm h3 fun ρ hρ => ?_))
          have h6 := h5 ρ hρ
          have : ∀ (ps : List AA) (vs : List Value), Args ρ (ps.map fun p => .c (.ptr p)) vs → vs = ps.map fun a => Value.pointer (some (a.conc ρ)) := by
            intro ps
            induction ps with
            | nil => intro vs h; exact Args_nil h
            | cons x r ih =>
              intro vs h
              obtain ⟨u, us, rfl, hu, hr⟩ := Args_cons h
              rw [ih us hr]
              obtain rfl := hu
              rfl
          show Value.func _ _ _ = Value.func _ _ _
          rw [← this ps _ h6]
          congr 1
          rw [← Array.toArray_toList (xs := captured.map a.eval), Array.toList_map]
        · exact h3.elim
      · exact h.elim
    | _ => exact (h : False).elim
  | _ => rw [hop] at h; exact (h : False).elim
end
end Go.Eng

namespace Go.Eng

section
variable {P : Program} {S : St} {K : Bool → AV → St → Prop}

theorem build_false {ps : List (Nat × Nat)} {γ : Bool} : ∀ {parts : List (Nat × Operand)} {cs : List AC} {K : List AC → Prop}, buildVC S γ ps cs parts K → ∃ ds, K ds
  | [], cs, K, h => ⟨cs, h⟩
  | (j, x) :: r, cs, K, h => by
    simp only [buildVC] at h
    split at h
    · obtain ⟨v, _, h2⟩ := rd_false h
      exact build_false h2
    · exact h.elim
theorem slice_false {n sz : Nat} {γ : Bool} : ∀ {parts : List (Nat × Operand)} {l : List (List AC)} {K : List (List AC) → Prop}, sliceVC S γ n sz l parts K → ∃ l', K l'
  | [], l, K, h => ⟨l, h⟩
  | (j, x) :: r, l, K, h => by
    obtain ⟨v, _, h2⟩ := rd_false h
    exact slice_false h2

theorem nil_false {t : TypeId} {op : BinOp} {va : AV} {K : AV → Prop} (h : nilVC P t op va K) : ∃ v, K v := by
  unfold nilVC at h
  split at h
  · cases op <;> first | exact ⟨_, h.2 false (by simp)⟩ | exact h.elim
  · exact h.elim
theorem eqCs_ex : ∀ {ks : List Nat} {xs ys : List AC} {K : Bool → Prop}, eqCs ks xs ys K → ∃ r, K r ∧ ∀ K2 : Bool → Prop, K2 r → eqCs ks xs ys K2
  | [], [], [], K, h => ⟨true, h, fun _ h => h⟩
  | 0 :: ks, .int _ x :: xs, .int _ y :: ys, K, h => by
    obtain ⟨r, h1, h2⟩ := eqCs_ex h.2
    exact ⟨_, h1, fun K2 hk => ⟨h.1, h2 _ hk⟩⟩
  | 1 :: ks, .bool x :: xs, .bool y :: ys, K, h => by
    simp only [eqCs] at h
    obtain ⟨r, h1, h2⟩ := eqCs_ex h
    exact ⟨_, h1, fun K2 hk => by simp only [eqCs]; exact h2 (fun r => K2 (decide (x = y) && r)) hk⟩
  | 2 :: ks, .str x :: xs, .str y :: ys, K, h => by
    simp only [eqCs] at h
    obtain ⟨r, h1, h2⟩ := eqCs_ex h
    exact ⟨_, h1, fun K2 hk => by simp only [eqCs]; exact h2 (fun r => K2 (decide (x = y) && r)) hk⟩
theorem eqA_ex {o : Option (List Nat)} {xs ys : List AC} {K : Bool → Prop} (h : eqA o xs ys K) : ∃ r, K r ∧ ∀ K2 : Bool → Prop, K2 r → eqA o xs ys K2 := by
  cases o with
  | none => exact h.elim
  | some ks => exact eqCs_ex h
theorem bin_false {t : TypeId} {op : BinOp} {va vb : AV} {γ : Bool} {K : AV → Prop} (h : binVC P t op va vb γ K) : ∃ v, K v := by
  unfold binVC at h
  split at h
  · cases op <;> first | exact ⟨_, h.2⟩ | exact ⟨_, h⟩
  · cases op <;> first | exact ⟨_, h.2⟩ | exact h.elim
  · cases op <;> first | exact ⟨_, h.2⟩ | exact ⟨_, h⟩ | exact h.elim
  · cases op <;> first | (obtain ⟨r, h, _⟩ := eqA_ex h; exact ⟨_, h⟩) | exact h.elim
  · exact ⟨_, h.2⟩

theorem conv_false {v : Cv} {a : AV} (h : cvVC S false v a K) : ∃ av, K false av S := by
  cases v with
  | int k => obtain ⟨_, _, _, h⟩ := cvVC_int h; exact ⟨_, h⟩
  | str => obtain ⟨_, _, h⟩ := cvVC_str h; exact ⟨_, h⟩
  | b2s =>
    obtain ⟨_, _, _, _, h⟩ := cvVC_b2s h
    rcases h with ⟨_, h⟩ | ⟨_, _, _, _, _, _, _, _, _, _, _, h⟩ <;> exact ⟨_, h⟩
  | s2b e => obtain ⟨_, _, h⟩ := cvVC_s2b h; exact ⟨_, h.2 rfl⟩
  | own => obtain ⟨_, _, _, _, h⟩ := cvVC_own h; exact ⟨_, h.2 rfl⟩

theorem bi_false {b : Builtin} {ts : List TypeId} {l : List AV} (h : biVC P S false b ts l K) : ∃ av, K false av S := by
  unfold biVC at h
  split at h
  · exact ⟨_, h.2⟩
  · exact ⟨_, h.2⟩
  · exact ⟨_, h.2⟩
  · exact ⟨_, h.2⟩
  · exact ⟨_, h.2⟩
  · exact ⟨_, h.2⟩
  · exact ⟨_, h.2⟩
  · exact ⟨_, h.2⟩
  · exact ⟨_, h.2⟩
  · exact ⟨_, h.2⟩
  · exact ⟨_, h.2 rfl⟩
  · exact ⟨_, h.2 rfl⟩
  · exact ⟨_, h.2 rfl⟩
  · exact ⟨_, h.2 rfl⟩
  · exact h.elim

theorem call_false {C : List Contract} {f : FuncId} {args : List AV} (h : callVC C S false f args K) : ∃ av, K false av S := by
  unfold callVC at h
  split at h
  · exact ⟨_, h.2⟩
  · exact ⟨_, h.2 rfl⟩
  · exact h.elim

theorem op_skip {C : List Contract} {op : Op} (h : opVC P C op S false K) : ∃ av, K false av S := by
  cases op with
  | move x => obtain ⟨v, h⟩ := rd_false h; exact ⟨_, h⟩
  | assign x => obtain ⟨v, h⟩ := rd_false h; exact ⟨_, h⟩
  | pick c x y =>
    obtain ⟨v, h⟩ := rd_false h
    obtain ⟨_, rfl, h⟩ := asB_of h
    obtain ⟨v, h⟩ := rd_false h
    obtain ⟨_, _, h, _⟩ := asBG_of h
    obtain ⟨v, h⟩ := rd_false h
    obtain ⟨_, _, h, _⟩ := asBG_of h
    exact ⟨_, h⟩
  | alloc t =>
    simp only [opVC] at h
    split at h
    · exact ⟨_, h.2 rfl⟩
    · exact h.elim
  | box t x => obtain ⟨v, _, h⟩ := rd_false h; exact ⟨_, h.2 rfl⟩
  | build t ps =>
    simp only [opVC] at h
    split at h
    · obtain ⟨ds, h⟩ := build_false h; exact ⟨_, h⟩
    · exact h.elim
  | buildSlice t n ps =>
    simp only [opVC] at h
    split at h
    · split at h
      · have h := h.2
        split at h
        · exact ⟨_, h.2⟩
        · obtain ⟨l, h⟩ := slice_false h; exact ⟨_, h.2 rfl⟩
      · exact h.elim
    · exact h.elim
  | load t x =>
    obtain ⟨v, h⟩ := rd_false h
    obtain ⟨p, rfl, hz⟩ := asPtr_of h
    obtain ⟨v, hz⟩ := loadVC_false hz
    exact ⟨_, hz⟩
  | store t x y =>
    obtain ⟨v, h⟩ := rd_false h
    obtain ⟨p, rfl, h⟩ := asPtr_of h
    obtain ⟨v, h⟩ := rd_false h
    exact ⟨_, h.2 rfl⟩
  | nilCheck x =>
    obtain ⟨v, h⟩ := rd_false h
    obtain ⟨p, rfl, h⟩ := asPtr_of h
    exact ⟨_, h⟩
  | binOp op t x y ty =>
    simp only [opVC] at h
    split at h
    · obtain ⟨v, h⟩ := rd_false h
      obtain ⟨v, h⟩ := nil_false h
      exact ⟨_, h⟩
    obtain ⟨v, h⟩ := rd_false h
    obtain ⟨v, h⟩ := rd_false h
    obtain ⟨v, h⟩ := bin_false h
    exact ⟨_, h⟩
  | unOp op t x =>
    obtain ⟨v, h⟩ := rd_false h
    unfold unVC at h
    split at h
    · exact ⟨_, h⟩
    · exact ⟨_, h⟩
    · exact ⟨_, h.2⟩
  | convert s d x =>
    obtain ⟨v, h⟩ := rd_false h
    split at h
    · exact conv_false h
    · exact h.elim
  | makeSlice t l c =>
    simp only [opVC] at h
    split at h
    · split at h
      · obtain ⟨v, h⟩ := rd_false h
        obtain ⟨_, _, rfl, h⟩ := asI_of h
        obtain ⟨v, h⟩ := rd_false h
        obtain ⟨_, _, rfl, h⟩ := asI_of h
        exact ⟨_, h.2 rfl⟩
      · exact h.elim
    · exact h.elim
  | slice t x lo hi mx =>
    cases mx with
    | none =>
      obtain ⟨v, h⟩ := rd_false h
      split at h
      · split at h
        · obtain ⟨_, h⟩ := optI_false h.2
          obtain ⟨_, h⟩ := optI_false h
          exact ⟨_, h.2⟩
        · obtain ⟨_, h⟩ := optI_false h
          obtain ⟨_, h⟩ := optI_false h
          exact ⟨_, h.2⟩
        · exact h.elim
      · obtain ⟨_, h⟩ := optI_false h.2
        obtain ⟨_, h⟩ := optI_false h
        exact ⟨_, h.2⟩
      · exact h.elim
    | some mx =>
      cases hi with
      | none => exact (h : False).elim
      | some hi =>
        obtain ⟨v, h⟩ := rd_false h
        obtain ⟨_, _, _, rfl, hz⟩ := asSl_of h
        split at hz
        · obtain ⟨_, hz⟩ := optI_false hz.2
          obtain ⟨_, hz⟩ := rd_false hz
          obtain ⟨_, _, rfl, hz⟩ := asI_of hz
          obtain ⟨_, hz⟩ := rd_false hz
          obtain ⟨_, _, rfl, hz⟩ := asI_of hz
          exact ⟨_, hz.2⟩
        · obtain ⟨_, hz⟩ := optI_false hz
          obtain ⟨_, hz⟩ := rd_false hz
          obtain ⟨_, _, rfl, hz⟩ := asI_of hz
          obtain ⟨_, hz⟩ := rd_false hz
          obtain ⟨_, _, rfl, hz⟩ := asI_of hz
          exact ⟨_, hz.2⟩
        · exact hz.elim
  | fieldAddr t x j =>
    obtain ⟨v, h⟩ := rd_false h
    obtain ⟨p, rfl, h⟩ := asPtr_of h
    split at h
    · exact ⟨_, h⟩
    · exact h.elim
  | field t x j =>
    obtain ⟨v, h⟩ := rd_false h
    split at h
    · exact ⟨_, h.2⟩
    · exact h.elim
  | indexAddr t x y =>
    obtain ⟨v, h⟩ := rd_false h
    obtain ⟨_, _, _, rfl, h⟩ := asSl_of h
    obtain ⟨v, h⟩ := rd_false h
    obtain ⟨_, _, rfl, h⟩ := asI_of h
    split at h
    · exact ⟨_, h.2⟩
    · exact h.elim
  | index t x y =>
    obtain ⟨v, h⟩ := rd_false h
    obtain ⟨v, h⟩ := rd_false h
    obtain ⟨_, _, rfl, h⟩ := asI_of h
    split at h
    · exact ⟨_, h.2⟩
    · exact h.elim
  | extract x j =>
    obtain ⟨v, h⟩ := rd_false h
    split at h
    · split at h
      · exact ⟨_, h⟩
      · exact ⟨_, h⟩
      · exact h.elim
    · exact h.elim
  | call c =>
    obtain ⟨callee, args, ats⟩ := c
    cases callee with
    | value f =>
      obtain ⟨v, h⟩ := rd_false h
      split at h
      · obtain ⟨l, h⟩ := rds_false h
        exact call_false h
      · exact h.elim
    | builtin b =>
      obtain ⟨l, h⟩ := rds_false h
      exact bi_false h
    | invoke r nm => exact (h : False).elim
  | makeFunc fn first captured =>
    cases fn with
    | func f =>
      simp only [opVC] at h
      split at h
      · obtain ⟨l, h⟩ := rds_false h
        split at h
        · exact ⟨_, h⟩
        · exact h.elim
      · exact h.elim
    | _ => exact (h : False).elim
  | _ => exact (h : False).elim
end

section
variable {P : Program} {W : Nat → Prop} {w0 : World} {C : List Contract}

/-- what stands behind a piece of code -/
def After (W : Nat → Prop) (w0 : World) (ρ0 : Env) (K : St → Prop) (a : Act) (w : World) : Prop :=
  ∃ ρ1 S', (∀ x, Same ρ0 ρ1 (.out x)) ∧ Mt W w0 ρ1 S' a w ∧ K S'

theorem grd_sound {ρ0 : Env} {S : St} {a : Act} {w : World} {ops : Array Oper} {g : Option (Nat × Bool)} {K : Bool → Prop} {o : Oper} (ho : o.guard = g) (hm : Mt W w0 ρ0 S a w) (h : grdVC ops S g K) :
    ∃ γ, K γ ∧ Region.wanted o (yielded ops a.tmps) = γ := by
  cases g with
  | none => exact ⟨true, h, by simp [Region.wanted, ho]⟩
  | some p =>
    obtain ⟨j, want⟩ := p
    simp only [grdVC] at h
    split at h
    · rename_i o' hj
      split at h
      · rename_i d hd
        split at h
        · rename_i g b hs
          have hr := (hm ρ0 (Agree.refl _ _))
          have hsl := hr.tmps d _ hs
          have hlt : d < a.tmps.size := by rw [hr.size]; exact (List.getElem?_eq_some_iff.1 hs).1
          have hget : a.tmps[d]? = some (a.tmps.getD d undef) := by simp [Array.getD_eq_getD_getElem?, hlt]
          refine ⟨_, h, ?_⟩
          simp only [Region.wanted, ho]
          cases g with
          | true =>
            have hv : a.tmps.getD d undef = .bool b := hsl.1 rfl
            have : yielded ops a.tmps j = some b := by simp [yielded, hj, hd, hget, hv]
            rw [this]
            cases want <;> cases b <;> rfl
          | false =>
            have hv : a.tmps.getD d undef = undef := hsl.2 rfl
            have : yielded ops a.tmps j = none := by
              rw [hv] at hget
              unfold yielded
              simp only [hj, hd, hget, Option.bind_some]
              rfl
            rw [this]
            simp
        · exact h.elim
      · exact h.elim
    · exact h.elim

theorem steps_sound (hC : ∀ c ∈ C, SpecOK P c) {ops : Array Oper} {Q : Exit → Act → World → Prop} {K : St → Prop} : ∀ {l : List Oper} {S : St} {a : Act} {w : World} {ρ0 ρb : Env}, stepsVC P C ops l S K → (∀ x, Same ρb ρ0 (.out x)) →
    Mt W w0 ρ0 S a w → (∀ a w, After W w0 ρb K a w → Q .normal a w) → wpList P ops Q l a w
  | [], S, a, w, ρ0, ρb, h, ho, hm, hQ => hQ a w ⟨ρ0, S, ho, hm, h⟩
  | o :: r, S, a, w, ρ0, ρb, h, ho, hm, hQ => by
    obtain ⟨γ, hop, hγ⟩ := grd_sound rfl hm h
    refine wpList_step fun Kn hKn => ?_
    rw [hγ]
    cases γ with
    | true =>
      simp only [if_true]
      refine op_sound hC hm hop fun v w' hl => ?_
      obtain ⟨g, av, S', ρ1, h1, h2, h3, h4⟩ := hl
      exact hKn _ _ (steps_sound hC h1 (fun x => (ho x).trans (h2 x)) (Mt_put h3 o.dst (.v g av) v h4) hQ)
    | false =>
      simp only [Bool.false_eq_true, if_false]
      obtain ⟨av, h1⟩ := op_skip hop
      exact hKn _ _ (steps_sound hC h1 ho (Mt_put hm o.dst (.v false av) undef fun _ _ => ⟨(fun h => by cases h), fun _ => rfl⟩) hQ)
end
end Go.Eng

namespace Go.Eng

theorem AC.ids_cl {n : Nat} {c : AC} (h : c.cl n) : ∀ x ∈ c.ids, x.cl n := by
  cases c with
  | ptr a => intro x hx; simp [AC.ids] at hx; subst hx; exact h
  | sl a l cap =>
    intro x hx
    simp only [AC.ids] at hx
    split at hx
    · simp at hx
    · simp at hx; subst hx; exact h.resolve_left (by assumption)
  | clo f caps => intro x hx; simp [AC.ids] at hx; obtain ⟨a, ha, rfl⟩ := hx; exact h a ha
  | _ => intro x hx; simp [AC.ids] at hx

section
variable {n : Nat} {ρ ρ' : Env} (hs : ∀ x : RId, x.cl n → Same ρ ρ' x)
include hs
theorem AC.Is_cl {c : AC} {v : Value} (h : c.cl n) (k : c.Is ρ v) : c.Is ρ' v := AC.Is_same (fun x hx => hs x (AC.ids_cl h x hx)) k
theorem cll_get : ∀ {cs : List AC} (h : cll n cs) (j : Nat) c, cs[j]? = some c → c.cl n
  | [], _, j, c, e => by simp at e
  | d :: r, h, 0, c, e => by simp at e; subst e; exact h.1
  | d :: r, h, j + 1, c, e => cll_get h.2 j c (by simpa using e)
theorem Cells_cl : ∀ {cs : List AC} {vs : List Value}, cll n cs → Cells ρ cs vs → Cells ρ' cs vs
  | [], [], _, k => k
  | _ :: _, _ :: _, h, k => ⟨AC.Is_cl hs h.1 k.1, Cells_cl h.2 k.2⟩
  | [], _ :: _, _, k => k.elim
  | _ :: _, [], _, k => k.elim
theorem clt_get : ∀ {xs : List (Bool × List AC)} (h : clt n xs) (j : Nat) p, xs[j]? = some p → cll n p.2
  | [], _, j, c, e => by simp at e
  | (b, cs) :: r, h, 0, c, e => by simp at e; subst e; exact h.1
  | (b, cs) :: r, h, j + 1, c, e => clt_get h.2 j c (by simpa using e)
theorem AV.Is_cl {a : AV} {v : Value} (h : a.cl n) (k : a.Is ρ v) : a.Is ρ' v := by
  cases a with
  | c x => exact AC.Is_cl hs h k
  | agg xs => obtain ⟨vs, e, q⟩ := k; exact ⟨vs, e, Cells_cl hs h q⟩
  | tup xs =>
    obtain ⟨vs, e, hl, q⟩ := k
    refine ⟨vs, e, hl, fun j b cs u h1 h2 => ?_⟩
    have hc : cll n cs := clt_get hs h j (b, cs) h1
    have := q j b cs u h1 h2
    cases b
    · simp only [Bool.false_eq_true, if_false] at this ⊢
      obtain ⟨c, e, k⟩ := this
      subst e
      exact ⟨c, rfl, AC.Is_cl hs hc.1 k⟩
    · simp only [if_true] at this ⊢
      obtain ⟨us, e, k⟩ := this
      exact ⟨us, e, Cells_cl hs hc k⟩
theorem RegOk_cl {x : RId} {w : World} {g : Rg} (hx : Same ρ ρ' x) (h : g.cl n) (k : RegOk ρ x w g) : RegOk ρ' x w g := by
  cases g with
  | box t cs =>
    obtain ⟨h1, vs, h2, h3⟩ := k
    exact ⟨by rw [← hx.base]; exact h1, vs, by rw [← hx.blk]; exact h2, Cells_cl hs h h3⟩
  | arr o t s m c l g =>
    obtain ⟨h1, h2⟩ := k
    refine ⟨by rw [← hx.sz]; exact h1, fun i hi => ⟨(h2 i hi).1, fun k hk => ⟨((h2 i hi).2.1 k hk).1, fun f d hd => ?_⟩, fun ho hc => ?_⟩⟩
    · obtain ⟨v, e, q⟩ := ((h2 i hi).2.1 k hk).2 f d hd
      exact ⟨v, by rw [← hx.blk, ← hx.base]; exact e, AC.Is_cl hs (cll_get hs (h i hi k hk) f d hd) q⟩
    · obtain ⟨e, cur, e2, e3⟩ := (h2 i hi).2.2 ho hc
      exact ⟨by rw [← hx.base]; exact e, cur, by rw [← hx.blk]; exact e2, e3⟩
end

theorem toL_get {n : Nat} {τ : List Nat} {L : List Rg} : ∀ {ms : List Nat} {gs : List Rg}, toL n τ L ms gs → ∀ (j : Nat) g, gs[j]? = some g → ∃ m G, ms[j]? = some m ∧ L[m]? = some G ∧ RgLe (g.ren τ) G ∧ g.cl n
  | [], [], _, j, g, e => by simp at e
  | m :: ms, g :: gs, h, 0, g', e => by
    simp at e; subst e
    obtain ⟨h1, h2, _⟩ := h
    split at h1
    · rename_i G hG; exact ⟨m, G, rfl, hG, h1, h2⟩
    · exact h1.elim
  | m :: ms, g :: gs, h, j + 1, g', e => by
    obtain ⟨m', G, q⟩ := toL_get h.2.2 j g' (by simpa using e)
    exact ⟨m', G, by simpa using q⟩
  | [], _ :: _, h, _, _, _ => h.elim
  | _ :: _, [], h, _, _, _ => h.elim
theorem toL_length {n : Nat} {τ : List Nat} {L : List Rg} : ∀ {ms : List Nat} {gs : List Rg}, toL n τ L ms gs → ms.length = gs.length
  | [], [], _ => rfl
  | _ :: _, _ :: _, h => by simp [toL_length h.2.2]
  | [], _ :: _, h => h.elim
  | _ :: _, [], h => h.elim
theorem toL_some {n : Nat} {τ : List Nat} {L : List Rg} : ∀ {ms : List Nat} {gs : List Rg}, toL n τ L ms gs → ∀ (j : Nat) m, ms[j]? = some m → ∃ g, gs[j]? = some g := by
  intro ms gs h j m e
  have := toL_length h
  have hj := (List.getElem?_eq_some_iff.1 e).1
  exact ⟨gs[j], List.getElem?_eq_getElem (by omega)⟩
theorem toO_find {n : Nat} {τ : List Nat} {S : St} : ∀ {r : List (RId × Rg)}, toO n τ S r → ∀ x g, findO r x = some g → ∃ G, S.look (.out x) = some G ∧ RgLe (g.ren τ) G ∧ g.cl n
  | [], _, x, g, e => by simp [findO] at e
  | (y, g') :: r, h, x, g, e => by
    obtain ⟨h1, h2, h3⟩ := h
    by_cases hx : y = x
    · subst hx
      simp [findO] at e
      subst e
      split at h1
      · rename_i G hG; exact ⟨G, hG, h1, h2⟩
      · exact h1.elim
    · simp only [findO, hx, if_false] at e
      exact toO_find h3 x g e
theorem keysO_find : ∀ {r l : List (RId × Rg)}, keysO r l → ∀ x, findO l x = none → findO r x = none
  | [], _, _, x, _ => rfl
  | (y, g) :: r, l, h, x, e => by
    by_cases hx : y = x
    · subst hx; have := h.1; rw [e] at this; exact absurd this (by simp)
    · simp only [findO, hx, if_false]
      exact keysO_find h.2 x e
theorem toT_get {n : Nat} {τ : List Nat} : ∀ {l l' : List Sl}, toT n τ l l' → l.length = l'.length ∧ ∀ (t : Nat) g a, l'[t]? = some (.v g a) → (∃ b, l[t]? = some (.v g b) ∧ b.eqv (a.ren τ)) ∧ a.cl n
  | [], [], _ => ⟨rfl, fun t g a e => by simp at e⟩
  | s :: r, s' :: r', h => by
    obtain ⟨h1, h2⟩ := toT_get h.2
    refine ⟨by simp [h1], fun t g a e => ?_⟩
    cases t with
    | zero =>
      simp at e
      subst e
      obtain ⟨q1, q2⟩ := h.1
      cases s with
      | un => exact q1.elim
      | v g' b => obtain ⟨rfl, q1⟩ := q1; exact ⟨⟨b, by simp, q1⟩, q2⟩
    | succ t => simpa using h2 t g a (by simpa using e)
  | [], _ :: _, h => h.elim
  | _ :: _, [], h => h.elim

theorem AC.up_cl (n : Nat) (c : AC) : c.up.cl n := by
  cases c with
  | ptr a => trivial
  | sl a l cap => exact .inr trivial
  | clo f caps => intro a ha; simp only [List.mem_map] at ha; obtain ⟨b, _, rfl⟩ := ha; trivial
  | _ => trivial
theorem upl_cl (n : Nat) : ∀ cs : List AC, cll n (cs.map AC.up)
  | [] => trivial
  | c :: cs => ⟨AC.up_cl n c, upl_cl n cs⟩
theorem Rg.up_cl (n : Nat) (g : Rg) : g.up.cl n := by
  cases g with
  | box t cs => exact upl_cl n cs
  | arr o t s m c l g => intro i _ k _; exact upl_cl n _
theorem Rg.up_ren (τ : List Nat) (g : Rg) : g.up.ren τ = g.up := by
  rw [Rg.ren_map, Rg.up_map, Rg.map_map]; rfl

/-- what S' has, S has under its own name -/
theorem ToM.look {τ : List Nat} {S S' : St} (h : ToM τ S S') {x : RId} {g : Rg} (e : S'.look x = some g) : ∃ G, S.look (x.ren τ) = some G ∧ RgLe (g.ren τ) G ∧ g.cl τ.length ∧ x.cl τ.length := by
  cases x with
  | nil => cases e
  | loc j =>
    obtain ⟨m, G, h1, h2, h3, h4⟩ := toL_get h.loc j g e
    refine ⟨G, ?_, h3, h4, (List.getElem?_eq_some_iff.1 h1).1⟩
    simp only [RId.ren, St.look]
    rw [List.getD_eq_getElem?_getD, h1]; exact h2
  | out y =>
    simp only [RId.ren]
    simp only [St.look] at e
    split at e
    · rename_i g' hg
      obtain rfl := Option.some.inj e
      obtain ⟨G, e1, e2, e3⟩ := toO_find h.ov y _ hg
      exact ⟨G, e1, e2, e3, trivial⟩
    · rename_i hn
      have hn' := keysO_find h.keys y hn
      refine ⟨g, ?_, ?_, ?_, trivial⟩
      · simp only [St.look, hn', ← h.base]; exact e
      · cases hb : S'.base y with
        | none => simp [hb] at e
        | some b => simp [hb] at e; subst e; rw [Rg.up_ren]; exact RgLe_refl _
      · cases hb : S'.base y with
        | none => simp [hb] at e
        | some b => simp [hb] at e; subst e; exact Rg.up_cl _ _

theorem ToM.look_out {τ : List Nat} {S S' : St} (h : ToM τ S S') {y : RId} {G : Rg} (e : S.look (.out y) = some G) : ∃ g, S'.look (.out y) = some g := by
  cases hf : findO S'.ov y with
  | some g => exact ⟨g, by simp only [St.look, hf]⟩
  | none =>
    have hn' := keysO_find h.keys y hf
    simp only [St.look, hn', ← h.base] at e
    exact ⟨G, by simp only [St.look, hf]; exact e⟩

theorem nodup_inj {τ : List Nat} (h : τ.Nodup) {i j : Nat} {hi : i < τ.length} {hj : j < τ.length} (e : τ[i] = τ[j]) : i = j := by
  rw [List.nodup_iff_pairwise_ne, List.pairwise_iff_getElem] at h
  rcases Nat.lt_trichotomy i j with q | q | q
  · exact absurd e (h i j hi hj q)
  · exact q
  · exact absurd e.symm (h j i hj hi q)

def Env.back (ρ ρ2 : Env) (τ : List Nat) : Env :=
  let h : RId → RId × Bool := fun x => match x with
    | .loc m => match τ.findIdx? (· == m) with
      | some j => (.loc j, true)
      | none => (.loc m, false)
    | x => (x, true)
  ⟨fun x i => match h x with | (y, true) => ρ2.blk y i | (y, false) => ρ.blk y i,
   fun x i => match h x with | (y, true) => ρ2.base y i | (y, false) => ρ.base y i,
   fun x => match h x with | (y, true) => ρ2.sz y | (y, false) => ρ.sz y⟩

theorem back_in {ρ ρ2 : Env} {τ : List Nat} (hn : τ.Nodup) : ∀ x : RId, x.cl τ.length → Same ((ρ.back ρ2 τ).pull (RId.ren τ)) ρ2 x := by
  intro x hx
  cases x with
  | loc j =>
    have hj : j < τ.length := hx
    have he : τ.findIdx? (· == τ.getD j 0) = some j := by
      rw [List.getD_eq_getElem?_getD, List.getElem?_eq_getElem hj, Option.getD_some, List.findIdx?_eq_some_iff_getElem]
      refine ⟨hj, by simp, fun k hk => ?_⟩
      simp only [beq_iff_eq, Bool.not_eq_true, beq_eq_false_iff_ne, ne_eq]
      intro e
      have := nodup_inj hn e
      omega
    constructor <;> simp only [Env.pull, Env.back, RId.ren, he] <;> first | rfl | (intro i; rfl) | (intro _; trivial)
  | out y => constructor <;> simp only [Env.pull, Env.back, RId.ren] <;> first | rfl | (intro i; rfl) | (intro _; trivial)
  | nil => constructor <;> simp only [Env.pull, Env.back, RId.ren] <;> first | rfl | (intro i; rfl) | (intro _; trivial)

theorem ToM_sound {τ : List Nat} {S S' : St} (h : ToM τ S S') {W : Nat → Prop} {n0 : Nat} {ρ : Env} {w : World} (hm : ∀ ρ1, Agree S.look ρ ρ1 → MemOk W n0 ρ1 S.look w) {ρ2 : Env} (hag : Agree S'.look (ρ.pull (RId.ren τ)) ρ2) :
    MemOk W n0 ρ2 S'.look w ∧ Agree S.look ρ (ρ.back ρ2 τ) := by
  have hin := back_in (ρ := ρ) (ρ2 := ρ2) h.nodup
  have hag1 : Agree S.look ρ (ρ.back ρ2 τ) := by
    intro x G e
    cases x with
    | nil => cases e
    | out y =>
      obtain ⟨g, eg⟩ := h.look_out e
      have := hag (.out y) g eg
      exact ⟨fun i => this.blk i, fun i => this.base i, this.sz⟩
    | loc m =>
      cases hf : τ.findIdx? (· == m) with
      | none => constructor <;> simp only [Env.back, hf] <;> first | rfl | (intro i; rfl) | (intro _; trivial) | (intro _; trivial)
      | some j =>
        have hj := List.findIdx?_eq_some_iff_getElem.1 hf
        obtain ⟨hjl, hje, _⟩ := hj
        have hm' : τ[j] = m := by simpa using hje
        obtain ⟨g, eg⟩ := toL_some h.loc j m (by rw [List.getElem?_eq_getElem hjl, hm'])
        have := hag (.loc j) g eg
        have hr : RId.ren τ (.loc j) = .loc m := by simp [RId.ren, List.getD_eq_getElem?_getD, List.getElem?_eq_getElem hjl, hm']
        constructor <;> simp only [Env.back, hf] <;> first | (intro i; have := this.blk i; simpa only [Env.pull, hr] using this) | (intro i; have := this.base i; simpa only [Env.pull, hr] using this) | (have := this.sz; simpa only [Env.pull, hr] using this)
  have R := hm _ hag1
  refine ⟨⟨fun x g e => ?_, fun x g i x' g' i' e ho hh e' hh' hne => ?_, fun x g i e ho hh => ?_, fun x g i e hh => ?_⟩, hag1⟩
  · obtain ⟨G, e1, e2, e3, e4⟩ := h.look e
    have := RegOk_le e2 (R.regs _ _ e1)
    rw [Rg.ren_map] at this
    exact RegOk_cl hin (hin x e4) e3 (RegOk_map.1 this)
  · obtain ⟨G, e1, e2, e3, e4⟩ := h.look e
    obtain ⟨G', e1', e2', e3', e4'⟩ := h.look e'
    have hb := R.dis _ G i _ G' i' e1 (RgLe_own e2 (by rw [Rg.ren_map, Rg.own_map]; exact ho)) (RgLe_has e2 (by rw [Rg.ren_map]; exact (Rg.has_map _ _ _).2 hh)) e1' (RgLe_has e2' (by rw [Rg.ren_map]; exact (Rg.has_map _ _ _).2 hh')) ?_
    · rw [← (hin x e4).blk, ← (hin x' e4').blk]; exact hb
    · rcases hne with hne | hne
      · refine .inl fun he => hne ?_
        cases x <;> cases x' <;> simp only [RId.ren, RId.loc.injEq, RId.out.injEq, reduceCtorEq] at he ⊢
        · rename_i j j'
          rw [List.getD_eq_getElem?_getD, List.getD_eq_getElem?_getD, List.getElem?_eq_getElem e4, List.getElem?_eq_getElem e4'] at he
          exact nodup_inj h.nodup he
        · exact he
      · exact .inr hne
  · obtain ⟨G, e1, e2, e3, e4⟩ := h.look e
    rw [← (hin x e4).blk]
    exact R.wr _ _ _ e1 (RgLe_own e2 (by rw [Rg.ren_map, Rg.own_map]; exact ho)) (RgLe_has e2 (by rw [Rg.ren_map]; exact (Rg.has_map _ _ _).2 hh))
  · obtain ⟨G, e1, e2, e3, e4⟩ := h.look e
    rw [← (hin x e4).blk]
    exact R.lt _ _ _ e1 (RgLe_has e2 (by rw [Rg.ren_map]; exact (Rg.has_map _ _ _).2 hh))

theorem To_sound {τ : List Nat} {S S' : St} (h : To τ S S') : Le S S' := by
  intro W w0 ρ a w hm
  refine ⟨ρ.pull (RId.ren τ), fun x => ⟨fun _ => rfl, fun _ => rfl, rfl⟩, fun ρ2 hag => ?_⟩
  obtain ⟨hmem, hag1⟩ := ToM_sound h.mem (fun ρ1 h1 => (hm ρ1 h1).mem) hag
  have hin := back_in (ρ := ρ) (ρ2 := ρ2) h.mem.nodup
  have R := hm _ hag1
  refine ⟨hmem, R.fr, ?_, fun t s e => ?_, R.defers⟩
  · rw [R.size]; exact (toT_get h.tmps).1
  · cases s with
    | un => trivial
    | v g b =>
      obtain ⟨⟨b0, e1, e0⟩, e2⟩ := (toT_get h.tmps).2 t g b e
      have := R.tmps t _ e1
      refine ⟨fun hg => ?_, this.2⟩
      have q := AV.eqv_Is e0 (this.1 hg)
      rw [AV.ren_map] at q
      exact AV.Is_cl hin e2 (AV.Is_map.1 q)
end Go.Eng

namespace Go.Eng

/-- orders, as a tree: where more than one may come next, each of them -/
inductive OT where
  | nil
  | go (i : Nat) (r : OT)
  | alt (i : Nat) (r : OT) (o : OT)
  | gob (i : Nat) (r : OT)

def getO : List Oper → Nat → List Oper
  | [], _ => []
  | o :: _, 0 => [o]
  | _ :: r, i + 1 => getO r i

/-- a load out of a box -/
def boxRd (S : St) : List Oper → Prop
  | [o] => match o.op with
    | .load _ x => rd S false x fun a => asPtr a fun p => match S.look p.r with
      | some (.box _ _) => True
      | _ => False
    | _ => False
  | _ => False
def drVC (P : Program) (C : List Contract) (ops : Array Oper) : OT → St → (St → Prop) → Prop
  | .nil, S, K => K S
  | .go i r, S, K => stepsVC P C ops (getO ops.toList i) S fun S' => drVC P C ops r S' K
  | .alt i r o, S, K => stepsVC P C ops (getO ops.toList i) S (fun S' => drVC P C ops r S' K) ∧ drVC P C ops o S K
  | .gob i r, S, K => boxRd S (getO ops.toList i) ∧ stepsVC P C ops (getO ops.toList i) S fun S' => drVC P C ops r S' K

/-- O: the orders in which the regions that draw theirs are walked -/
def vc (P : Program) (C : List Contract) (O : Nat → OT) : Code → (Exit → St → Prop) → St → Prop
  | .skip, Q, S => Q .normal S
  | .region id ops d, Q, S => bif d then drVC P C ops (O id) S (Q .normal) else stepsVC P C ops ops.toList S (Q .normal)
  | .seq a b, Q, S => vc P C O a (fun e S' => match e with
    | .normal => vc P C O b Q S'
    | e => Q e S') S
  | .cond x a b, Q, S => rd S true x fun v => asB v fun t => (t = true → vc P C O a Q S) ∧ (t = false → vc P C O b Q S)
  | .block id c, Q, S => vc P C O c (fun e S' => match e with
    | .exit j => if j = id then Q .normal S' else Q (.exit j) S'
    | e => Q e S') S
  | .loop c, Q, S => ∃ (J : Type) (F : J → St) (μ : J → Nat), (∃ j, Le S (F j)) ∧ ∀ j, vc P C O c (fun e S' => match e with
    | .normal => ∃ j', Le S' (F j') ∧ μ j' < μ j
    | e => Q e S') (F j)
  | .exit id, Q, S => Q (.exit id) S
  | .ret, Q, S => Q .ret S
  | _, _, _ => False

/-- what a region that draws its order must allow -/
def DrawOK (P : Program) (C : List Contract) (ops : Array Oper) (ord : OT) : Prop :=
  ∀ (W : Nat → Prop) (w0 : World) (ρ0 : Env) (S : St) (a : Act) (w : World) (id : Nat) (Q : Exit → Act → World → Prop) (K : St → Prop),
    drVC P C ops ord S K → Mt W w0 ρ0 S a w → (∀ a w, After W w0 ρ0 K a w → Q .normal a w) → (Code.region id ops true).wp P Q a w

def okC (P : Program) (C : List Contract) (O : Nat → OT) : Code → Prop
  | .region id ops true => DrawOK P C ops (O id)
  | .seq a b => okC P C O a ∧ okC P C O b
  | .cond _ a b => okC P C O a ∧ okC P C O b
  | .block _ c => okC P C O c
  | .loop c => okC P C O c
  | _ => True

section
variable {P : Program} {W : Nat → Prop} {w0 : World} {C : List Contract} {O : Nat → OT}

theorem After.from {ρ0 ρ1 : Env} {K : St → Prop} {a : Act} {w : World} (h : After W w0 ρ1 K a w) (ho : ∀ x, Same ρ0 ρ1 (.out x)) : After W w0 ρ0 K a w := by
  obtain ⟨ρ2, S', h1, h2, h3⟩ := h
  exact ⟨ρ2, S', fun x => (ho x).trans (h1 x), h2, h3⟩

theorem vc_sound (hC : ∀ c ∈ C, SpecOK P c) : ∀ (code : Code), okC P C O code → ∀ {Q : Exit → St → Prop} {Qc : Exit → Act → World → Prop} {S : St} {a : Act} {w : World} {ρ0 : Env},
    vc P C O code Q S → Mt W w0 ρ0 S a w → (∀ e a w, After W w0 ρ0 (Q e) a w → Qc e a w) → code.wp P Qc a w
  | .skip, _, Q, Qc, S, a, w, ρ0, h, hm, hQ => wp_skip (hQ _ _ _ ⟨ρ0, S, fun _ => Same.refl _ _, hm, h⟩)
  | .region id ops true, hok, Q, Qc, S, a, w, ρ0, h, hm, hQ => hok W w0 ρ0 S a w id Qc _ h hm (fun a w => hQ _ a w)
  | .region id ops false, _, Q, Qc, S, a, w, ρ0, h, hm, hQ => wp_region_list (steps_sound hC h (fun _ => Same.refl _ _) hm (fun a w => hQ _ a w))
  | .seq x y, hok, Q, Qc, S, a, w, ρ0, h, hm, hQ => by
    refine wp_seq (vc_sound hC x hok.1 h hm fun e a w hA => ?_)
    obtain ⟨ρ1, S', h1, h2, h3⟩ := hA
    cases e with
    | normal => exact vc_sound hC y hok.2 h3 h2 fun e a w hA => hQ e a w (hA.from h1)
    | _ => exact hQ _ _ _ ⟨ρ1, S', h1, h2, h3⟩
  | .cond c x y, hok, Q, Qc, S, a, w, ρ0, h, hm, hQ => by
    obtain ⟨v, h1, h2⟩ := rd_sound hm h
    obtain ⟨t, rfl, h1⟩ := asB_of h1
    refine wp_cond_split (t := t) (h2 ρ0 (Agree.refl _ _)) (fun ht => ?_) (fun ht => ?_)
    · exact vc_sound hC x hok.1 (h1.1 ht) hm hQ
    · exact vc_sound hC y hok.2 (h1.2 ht) hm hQ
  | .block id c, hok, Q, Qc, S, a, w, ρ0, h, hm, hQ => by
    refine wp_block (vc_sound hC c hok h hm fun e a w hA => ?_)
    obtain ⟨ρ1, S', h1, h2, h3⟩ := hA
    cases e with
    | exit j =>
      simp only [Exit.inBlock]
      simp only at h3
      split
      · rename_i hj; simp only [hj, if_true] at h3; exact hQ _ _ _ ⟨ρ1, S', h1, h2, h3⟩
      · rename_i hj; simp only [hj, if_false] at h3; exact hQ _ _ _ ⟨ρ1, S', h1, h2, h3⟩
    | _ => exact hQ _ _ _ ⟨ρ1, S', h1, h2, h3⟩
  | .loop c, hok, Q, Qc, S, a, w, ρ0, h, hm, hQ => by
    obtain ⟨J, F, μ, ⟨j0, hj0⟩, hr⟩ := h
    have key : ∀ (n : Nat) (j : J) (a : Act) (w : World) (ρ : Env), μ j < n → (∀ x, Same ρ0 ρ (.out x)) → Mt W w0 ρ (F j) a w → Code.rounds P c Qc n a w := by
      intro n
      induction n with
      | zero => intro j a w ρ h; omega
      | succ n ih =>
        intro j a w ρ hμ ho hmj
        refine vc_sound hC c hok (hr j) hmj fun e a w hA => ?_
        obtain ⟨ρ1, S', h1, h2, h3⟩ := hA
        cases e with
        | normal =>
          obtain ⟨j', hle, hlt⟩ := h3
          obtain ⟨ρ2, h4, h5⟩ := hle W w0 ρ1 a w h2
          exact ih j' a w ρ2 (by omega) (fun x => ((ho x).trans (h1 x)).trans (h4 x)) h5
        | _ => exact hQ _ _ _ ⟨ρ1, S', fun x => (ho x).trans (h1 x), h2, h3⟩
    obtain ⟨ρ1, h1, h2⟩ := hj0 W w0 ρ0 a w hm
    exact wp_loop_rounds (μ j0 + 1) (key _ j0 a w ρ1 (by omega) h1 h2)
  | .exit id, _, Q, Qc, S, a, w, ρ0, h, hm, hQ => wp_exit (hQ _ _ _ ⟨ρ0, S, fun _ => Same.refl _ _, hm, h⟩)
  | .ret, _, Q, Qc, S, a, w, ρ0, h, hm, hQ => wp_ret (hQ _ _ _ ⟨ρ0, S, fun _ => Same.refl _ _, hm, h⟩)
  | .rangeFunc .., _, _, _, _, _, _, _, h, _, _ => h.elim
  | .scope .., _, _, _, _, _, _, _, h, _, _ => h.elim
  | .label .., _, _, _, _, _, _, _, h, _, _ => h.elim
  | .goto .., _, _, _, _, _, _, _, h, _, _ => h.elim
  | .refuse .., _, _, _, _, _, _, _, h, _, _ => h.elim
end
end Go.Eng

namespace Go.Eng

def okU (M : RId → Option Rg) : List (RId × Rg) → Prop
  | [] => True
  | (x, _) :: r => (M x).isSome = true ∧ okU M r

/-- empty regions out of nothing: what a slice without capacity may name -/
def ghosts : List (Nat × Nat) → List Rg
  | [] => []
  | (t, s) :: r => .rows true t s [(0, [])] :: ghosts r
def St.gh (S : St) (gs : List (Nat × Nat)) : St := { S with loc := S.loc ++ ghosts gs }
theorem Mt_ghost1 {W : Nat → Prop} {w0 : World} {ρ0 : Env} {S : St} {a : Act} {w : World} (hm : Mt W w0 ρ0 S a w) (t s : Nat) :
    Mt W w0 (ρ0.set (.loc S.loc.length) 0 s) (S.alloc (.rows true t s [(0, [])])) a w := by
  intro ρ hρ
  have hn : ∀ x g', S.look x = some g' → x ≠ .loc S.loc.length := fun x g' h e => by subst e; rw [look_len] at h; cases h
  have hag : Agree S.look ρ0 ρ := by
    intro x g' hx
    have hne := hn x g' hx
    have := hρ x g' (by rw [look_alloc, if_neg hne]; exact hx)
    exact ⟨fun i => by have := this.blk i; simpa [Env.set, hne] using this, fun i => by have := this.base i; simpa [Env.set, hne] using this, by have := this.sz; simpa [Env.set, hne] using this⟩
  have hnew := hρ (.loc S.loc.length) _ (by rw [look_alloc, if_pos rfl])
  have hsz : ρ.sz (.loc S.loc.length) = s := by have := hnew.sz; simpa [Env.set] using this.symm
  have hr := hm ρ hag
  have hno : ∀ i, ¬ (Rg.rows true t s [(0, [])]).has i := by
    rintro i ⟨h1, h2⟩
    have h1 : i < 1 := h1
    obtain rfl : i = 0 := by omega
    exact absurd h2 (by simp)
  refine ⟨⟨fun x g e => ?_, fun x g i x' g' i' e ho hh e' hh' hne => ?_, fun x g i e ho hh => ?_, fun x g i e hh => ?_⟩, hr.fr, hr.size, hr.tmps, hr.defers⟩
  · rw [look_alloc] at e
    split at e
    · rename_i ex; subst ex; obtain rfl := Option.some.inj e
      refine ⟨hsz, fun i hi => ?_⟩
      have hi : i < 1 := hi
      obtain rfl : i = 0 := by omega
      exact ⟨Nat.le_refl _, fun k hk => absurd hk (by simp), fun _ h => absurd h (by simp)⟩
    · exact hr.mem.regs x g e
  · rw [look_alloc] at e e'
    split at e
    · obtain rfl := Option.some.inj e; exact absurd hh (hno _)
    · split at e'
      · obtain rfl := Option.some.inj e'; exact absurd hh' (hno _)
      · exact hr.mem.dis x g i x' g' i' e ho hh e' hh' hne
  · rw [look_alloc] at e
    split at e
    · obtain rfl := Option.some.inj e; exact absurd hh (hno _)
    · exact hr.mem.wr x g i e ho hh
  · rw [look_alloc] at e
    split at e
    · obtain rfl := Option.some.inj e; exact absurd hh (hno _)
    · exact hr.mem.lt x g i e hh
theorem gh_look {S : St} {gs : List (Nat × Nat)} {x : RId} {g : Rg} (h : S.look x = some g) : (S.gh gs).look x = some g := by
  cases x with
  | loc n =>
    simp only [St.look, St.gh] at h ⊢
    rw [List.getElem?_append_left (List.getElem?_eq_some_iff.1 h).1]; exact h
  | out y => exact h
  | nil => exact h
theorem Mt_gh {W : Nat → Prop} {w0 : World} {a : Act} {w : World} : ∀ (gs : List (Nat × Nat)) {S : St} {ρ0 : Env}, Mt W w0 ρ0 S a w → ∃ ρ1, (∀ x, Same ρ0 ρ1 (.out x)) ∧ Agree S.look ρ0 ρ1 ∧ Mt W w0 ρ1 (S.gh gs) a w
  | [], S, ρ0, hm => ⟨ρ0, fun _ => Same.refl _ _, Agree.refl _ _, by simpa [St.gh, ghosts] using hm⟩
  | (t, s) :: r, S, ρ0, hm => by
    obtain ⟨ρ1, h1, hA, h2⟩ := Mt_gh r (Mt_ghost1 hm t s)
    have hs : ∀ x, x ≠ .loc S.loc.length → Same ρ0 (ρ0.set (.loc S.loc.length) 0 s) x := fun x hx => ⟨fun i => by simp [Env.set, hx], fun i => by simp [Env.set, hx], by simp [Env.set, hx]⟩
    refine ⟨ρ1, fun x => (hs _ (by simp)).trans (h1 x), fun x g hx => ?_, ?_⟩
    · have hne : x ≠ .loc S.loc.length := fun e => by subst e; rw [look_len] at hx; cases hx
      exact (hs x hne).trans (hA x g (by rw [look_alloc, if_neg hne]; exact hx))
    · simpa [St.gh, ghosts, St.alloc] using h2
theorem Le_gh (S : St) (gs : List (Nat × Nat)) : Le S (S.gh gs) := fun _ _ _ _ _ hm => by
  obtain ⟨ρ1, h1, _, h2⟩ := Mt_gh gs hm
  exact ⟨ρ1, h1, h2⟩
theorem Le.trans {S S' S'' : St} (h : Le S S') (k : Le S' S'') : Le S S'' := by
  intro W w0 ρ a w hm
  obtain ⟨ρ1, h1, h2⟩ := h W w0 ρ a w hm
  obtain ⟨ρ2, h3, h4⟩ := k W w0 ρ1 a w h2
  exact ⟨ρ2, fun x => (h1 x).trans (h3 x), h4⟩

/-- how a body ends -/
def endVC (P : Program) (rs : List ResultVar) (M : RId → Option Rg) {ι : Type} (cond : ι → Prop) (val : ι → AV) (new : ι → List Rg) (upd : ι → List (RId × Rg)) (e : Exit) (S' : St) : Prop :=
  (match e with
    | .normal | .ret => True
    | _ => False) ∧
  exitVC P rs S' fun av => ∃ (p : ι) (gs : List (Nat × Nat)) (τ : List Nat), cond p ∧ ToM τ (S'.gh gs) ⟨[], M, upd p, new p⟩ ∧ (av.eqv ((val p).ren τ) ∧ (val p).cl τ.length) ∧ okU M (upd p)

def St.enter (nt : Nat) (args : List AV) (M : RId → Option Rg) : St :=
  ⟨args.map (fun a => .v true a.up) ++ List.replicate (nt - args.length) .un, M, [], []⟩

theorem okU_mem {M : RId → Option Rg} : ∀ {l : List (RId × Rg)}, okU M l → ∀ p ∈ l, (M p.1).isSome = true
  | [], _, p, hp => by simp at hp
  | (x, g) :: r, h, p, hp => by
    rcases List.mem_cons.1 hp with rfl | hp
    · exact h.1
    · exact okU_mem h.2 p hp

section
variable {P : Program}

theorem Args_length {ρ : Env} : ∀ {l : List AV} {vs : List Value}, Args ρ l vs → l.length = vs.length
  | [], [], _ => rfl
  | _ :: _, _ :: _, h => by simp [Args_length h.2]
  | [], _ :: _, h => h.elim
  | _ :: _, [], h => h.elim
theorem Args_get {ρ : Env} : ∀ {l : List AV} {vs : List Value}, Args ρ l vs → ∀ (j : Nat) a, l[j]? = some a → ∃ v, vs[j]? = some v ∧ a.Is ρ v
  | [], _, _, j, a, e => by simp at e
  | _ :: _, _ :: _, h, 0, a, e => by simp at e; subst e; exact ⟨_, rfl, h.1⟩
  | _ :: _, _ :: _, h, j + 1, a, e => by simpa using Args_get h.2 j a (by simpa using e)
  | _ :: _, [], h, _, _, _ => h.elim

theorem look_enter {nt : Nat} {args : List AV} {M : RId → Option Rg} (x : RId) : (St.enter nt args M).look x = match x with
    | .out y => (M y).map Rg.up
    | _ => none := by
  cases x <;> simp [St.enter, St.look, findO]

theorem look_aft {M : RId → Option Rg} {upd : List (RId × Rg)} {new : List Rg} : (⟨[], M, upd, new⟩ : St).look = aft M upd new := by
  funext x
  cases x <;> rfl

def resF (tmps : Array Value) : ResultVar → Sem Value
  | .tmp t => pure (tmps.getD t undef)
  | .cell a t => do loadVar t (← asAddr (tmps.getD a undef))

theorem run_mapM_cons {α : Type} {f : α → Sem Value} {x : α} {l : List α} {v : Value} {vs : List Value} {w : World} (h : (f x).run P w = .ok v w) (k : (l.mapM f).run P w = .ok vs w) :
    ((x :: l).mapM f).run P w = .ok (v :: vs) w := by
  rw [List.mapM_cons]
  simp only [Sem.run_bind, h, Result.andThen_ok, k, Sem.run_pure]

theorem res_sound {W : Nat → Prop} {w0 : World} {ρ0 : Env} {S : St} {a : Act} {w : World} (hm : Mt W w0 ρ0 S a w) :
    ∀ {l : List ResultVar} {K : List AV → Prop}, resVC P S l K → ∃ as vs, K as ∧ (l.mapM (resF a.tmps)).run P w = .ok vs w ∧ ∀ ρ, Agree S.look ρ0 ρ → Args ρ as vs
  | [], K, h => ⟨[], [], h, rfl, fun _ _ => trivial⟩
  | .tmp t :: r, K, h => by
    have h' : rd S true (.tmp t) fun a => resVC P S r fun l => K (a :: l) := h
    obtain ⟨v, h1, h2⟩ := rd_sound hm h'
    obtain ⟨as, vs, k1, k3, k4⟩ := res_sound hm h1
    exact ⟨v :: as, a.tmps.getD t undef :: vs, k1, run_mapM_cons rfl k3, fun ρ hρ => ⟨h2 ρ hρ, k4 ρ hρ⟩⟩
  | .cell t ty :: r, K, h => by
    have h' : rd S true (.tmp t) fun a => asPtr a fun p => loadVC P S true ty p fun v => resVC P S r fun l => K (v :: l) := h
    obtain ⟨v, h1, h2⟩ := rd_sound hm h'
    obtain ⟨p, rfl, h6⟩ := asPtr_of h1
    obtain ⟨v, u, h3, h4, h5⟩ := load_sound hm h6
    obtain ⟨as, vs, k1, k3, k4⟩ := res_sound hm h3
    have he : a.tmps.getD t undef = .pointer (some (p.conc ρ0)) := h2 ρ0 (Agree.refl _ _)
    refine ⟨v :: as, u :: vs, k1, run_mapM_cons ?_ k3, fun ρ hρ => ⟨h5 ρ hρ, k4 ρ hρ⟩⟩
    simp only [resF, he]
    exact h4

theorem tup_Is {ρ : Env} {as : List AV} {vs : List Value} (h : Args ρ as vs) (hn : as.all AV.noTup = true) : (AV.tup (as.map fun a => (a.isAgg, a.cells))).Is ρ (.tuple vs.toArray) := by
  refine ⟨vs, rfl, by simp [Args_length h], fun j b cs u h1 h2 => ?_⟩
  rw [List.getElem?_map] at h1
  cases ha : as[j]? with
  | none => simp [ha] at h1
  | some a =>
    simp [ha] at h1
    obtain ⟨rfl, rfl⟩ := h1
    obtain ⟨v, e, hv⟩ := Args_get h j a ha
    obtain rfl : v = u := Option.some.inj (e.symm.trans h2)
    have hnt : a.noTup = true := by
      rw [List.all_eq_true] at hn
      exact hn a (List.mem_of_getElem? ha)
    cases a with
    | c x => exact ⟨x, rfl, hv⟩
    | agg xs => exact hv
    | tup xs => cases hnt

theorem exit_sound {W : Nat → Prop} {w0 : World} {ρ0 : Env} {S : St} {a : Act} {w : World} {fn : Func} {K : AV → Prop} (hm : Mt W w0 ρ0 S a w) (h : exitVC P fn.results.toList S K) :
    ∃ av v, K av ∧ (results fn a.tmps).run P w = .ok v w ∧ ∀ ρ, Agree S.look ρ0 ρ → av.Is ρ v := by
  obtain ⟨as, vs, h1, h2, h3⟩ := res_sound hm h
  have hr : (results fn a.tmps).run P w = .ok (if h : vs.toArray.size = 1 then vs.toArray[0] else .tuple vs.toArray) w := by
    have key : ∀ F : ResultVar → Sem Value, (∀ x, F x = resF a.tmps x) → (do let vs ← fn.results.mapM F; pure (if h : vs.size = 1 then vs[0] else .tuple vs) : Sem Value).run P w = .ok (if h : vs.toArray.size = 1 then vs.toArray[0] else .tuple vs.toArray) w := by
      intro F hF
      rw [show F = resF a.tmps from funext hF, Array.mapM_eq_mapM_toList]
      simp only [Sem.run_bind, Sem.run_map, h2]
      rfl
    exact key _ fun x => by cases x <;> rfl
  have hl := Args_length (h3 ρ0 (Agree.refl _ _))
  split at h1
  · rename_i a
    cases vs with
    | nil => simp at hl
    | cons v r =>
      cases r with
      | cons _ _ => simp at hl
      | nil => exact ⟨a, v, h1, hr, fun ρ hρ => (show AV.Is ρ a v ∧ True from h3 ρ hρ).1⟩
  · rename_i l hl2
    have hne : vs.toArray.size ≠ 1 := fun e => by
      have e : vs.length = 1 := by simpa using e
      rw [← hl] at e
      match as, e with
      | [a], _ => exact hl2 a rfl
    exact ⟨_, .tuple vs.toArray, h1.2, by rw [hr, dif_neg hne], fun ρ hρ => tup_Is (h3 ρ hρ) h1.1⟩

theorem enter {C : List Contract} {O : Nat → OT} (hC : ∀ c ∈ C, SpecOK P c) {f : FuncId} {fn : Func} {code : Code} (hf : P.funcs[f]? = some fn) (hb : fn.body = some code) {nt : Nat} (hnt : fn.ntmps = nt) {rs : List ResultVar} (hrs : fn.results.toList = rs) (hok : okC P C O code)
    {args : List AV} {M : RId → Option Rg} {ι : Type} {cond : ι → Prop} {val : ι → AV} {new : ι → List Rg} {upd : ι → List (RId × Rg)}
    (h : vc P C O code (endVC P rs M cond val new upd) (St.enter nt args M)) : CallOK P f args M ι cond val new upd := by
  intro W ρ0 w vs hnil hin
  subst hnt hrs
  refine calls_of_wp hf hb ?_
  let ρ1 : Env := ⟨fun x i => match x with | .out y => ρ0.blk y i | _ => 0, fun x i => match x with | .out y => ρ0.base y i | _ => 0, fun x => match x with | .out y => ρ0.sz y | _ => 0⟩
  have hlen := Args_length (hin ρ0 (Agree.refl _ _)).2
  have hm : Mt W w ρ1 (St.enter fn.ntmps args M) { tmps := vs.toArray ++ Array.replicate (fn.ntmps - vs.toArray.size) undef, defers := [] } w := by
    intro ρ hρ
    have hag : Agree M ρ0 (ρ.pull .out) := fun x g e => by
      have := hρ (.out x) g.up (by rw [look_enter]; simp [e])
      exact ⟨fun i => this.blk i, fun i => this.base i, this.sz⟩
    obtain ⟨hM, hA⟩ := hin _ hag
    have hlk : ∀ x g, (St.enter fn.ntmps args M).look x = some g → ∃ y g0, x = .out y ∧ M y = some g0 ∧ g = g0.map .out := by
      intro x g e
      rw [look_enter] at e
      cases x with
      | out y =>
        cases hy : M y with
        | none => simp [hy] at e
        | some g0 => simp [hy] at e; exact ⟨y, g0, rfl, hy, by rw [← e, Rg.up_map]⟩
      | _ => cases e
    refine ⟨⟨fun x g e => ?_, fun x g i x' g' i' e ho hh e' hh' hne => ?_, fun x g i e ho hh => ?_, fun x g i e hh => ?_⟩, ⟨rfl, rfl, rfl, Nat.le_refl _, fun _ _ _ => rfl⟩, ?_, fun t s e => ?_, rfl⟩
    · obtain ⟨y, g0, rfl, hy, rfl⟩ := hlk x g e
      exact RegOk_map.2 (hM.regs y g0 hy)
    · obtain ⟨y, g0, rfl, hy, rfl⟩ := hlk x g e
      obtain ⟨y', g0', rfl, hy', rfl⟩ := hlk x' g' e'
      exact hM.dis y g0 i y' g0' i' hy (by rwa [Rg.own_map] at ho) ((Rg.has_map _ _ _).1 hh) hy' ((Rg.has_map _ _ _).1 hh') (hne.imp (fun h e => h (by rw [e])) id)
    · obtain ⟨y, g0, rfl, hy, rfl⟩ := hlk x g e
      exact hM.wr y g0 i hy (by rwa [Rg.own_map] at ho) ((Rg.has_map _ _ _).1 hh)
    · obtain ⟨y, g0, rfl, hy, rfl⟩ := hlk x g e
      exact hM.lt y g0 i hy ((Rg.has_map _ _ _).1 hh)
    · simp [St.enter, hlen]
    · cases s with
      | un => trivial
      | v g b =>
        simp only [St.enter] at e
        rcases Nat.lt_or_ge t args.length with ht | ht
        · rw [List.getElem?_append_left (by simpa using ht), List.getElem?_map] at e
          cases ha : args[t]? with
          | none => simp [ha] at e
          | some a =>
            simp [ha] at e
            obtain ⟨rfl, rfl⟩ := e
            obtain ⟨v, ev, hv⟩ := Args_get hA t a ha
            have hvt : (vs.toArray ++ Array.replicate (fn.ntmps - vs.toArray.size) undef).getD t undef = v := by
              have hlt : t < vs.length := by omega
              rw [Array.getD_eq_getD_getElem?, Array.getElem?_append_left (by simpa using hlt)]
              simp [ev]
            refine ⟨fun _ => ?_, fun h => by cases h⟩
            rw [hvt, AV.up_map]
            exact AV.Is_map.2 hv
        · rw [List.getElem?_append_right (by simpa using ht)] at e
          rw [List.getElem?_replicate] at e
          split at e <;> simp at e
  refine vc_sound hC code hok h hm fun e a' w' hA => ?_
  obtain ⟨ρ2, S', h1, h2, h3, h4⟩ := hA
  obtain ⟨av, v, ⟨p, gs, τ, k1, k2, ⟨kav, k3⟩, k4⟩, hr, hv⟩ := exit_sound h2 h4
  obtain ⟨ρ4, g1, g2, g3⟩ := Mt_gh gs h2
  have hfin : a'.defers = [] ∧ ∃ v, (results fn a'.tmps).run P w' = .ok v w' ∧ ∃ p ρ' v', cond p ∧ Ending.returned v = .returned v' ∧ Fr W w w' ∧
      (∀ x i, ρ'.blk (.out x) i = ρ0.blk x i) ∧ (∀ x i, ρ'.base (.out x) i = ρ0.base x i) ∧ (∀ x, ρ'.sz (.out x) = ρ0.sz x) ∧
      (∀ p' ∈ upd p, (M p'.1).isSome) ∧
      ∀ ρ, Agree (aft M (upd p) (new p)) ρ' ρ → MemOk W w.heap.size ρ (aft M (upd p) (new p)) w' ∧ (val p).Is ρ v' := by
    have R := h2 ρ2 (Agree.refl _ _)
    have h1 := fun x => (h1 x).trans (g1 x)
    refine ⟨R.defers, v, hr, p, ρ4.pull (RId.ren τ), v, k1, rfl, R.fr, fun x i => ((h1 x).blk i).symm, fun x i => ((h1 x).base i).symm, fun x => ((h1 x).sz).symm, okU_mem k4, fun ρ hρ => ?_⟩
    rw [← look_aft] at hρ ⊢
    obtain ⟨q1, q2⟩ := ToM_sound k2 (fun ρ3 h3 => (g3 ρ3 h3).mem) hρ
    refine ⟨q1, ?_⟩
    have := AV.eqv_Is kav (hv _ fun x g e => (g2 x g e).trans (q2 x g (gh_look e)))
    rw [AV.ren_map] at this
    exact AV.Is_cl (back_in k2.nodup) k3 (AV.Is_map.1 this)
  cases e <;> first | exact hfin | exact h3.elim
end
end Go.Eng

