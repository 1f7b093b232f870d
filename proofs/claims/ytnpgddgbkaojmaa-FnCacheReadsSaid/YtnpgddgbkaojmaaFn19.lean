/- cache: FnCache in plain terms. -/
import Derived.Test.YtnpgddgbkaojmaaFn18
set_option linter.unusedVariables false
set_option linter.unusedSimpArgs false
set_option linter.unusedSectionVars false
namespace Go.Eng.T
open Go.Proofs
open Cel (enc dec)
/-- the rows tell what W has; the disk has the rest -/
def cbase (cap : Int) (D : List ByteArray) (R : List TR) (W : List ByteArray) : Prop :=
  (1 ≤ cap ∧ cap ≤ 6) ∧ D.length = 20 ∧ W.length = 20 ∧ (∀ b, b < 20 → (W.getD b default).size ≤ 20 ∧ (D.getD b default).size ≤ 20) ∧
  R.Pairwise (fun x y => x.1 ≠ y.1) ∧ ∀ x ∈ R, (0 ≤ x.1 ∧ x.1 ≤ 19) ∧ x.2.1 = W.getD x.1.toNat default ∧ (x.2.2 = false → x.2.1 = D.getD x.1.toNat default)
def cinv (cap : Int) (D : List ByteArray) (R : List TR) (W : List ByteArray) : Prop :=
  cbase cap D R W ∧ (R.length : Int) ≤ cap ∧ ∀ b : Nat, b < 20 → (∀ x ∈ R, x.1 ≠ b) → D.getD b default = W.getD b default
/-- the same, without the row of a block, with room for it -/
def cinv0 (cap : Int) (D : List ByteArray) (R : List TR) (W : List ByteArray) (v : Int) : Prop :=
  cbase cap D R W ∧ (R.length : Int) < cap ∧ (∀ x ∈ R, x.1 ≠ v) ∧ ∀ b : Nat, b < 20 → (b : Int) ≠ v → (∀ x ∈ R, x.1 ≠ b) → D.getD b default = W.getD b default
theorem gsetB {L : List ByteArray} {i j : Nat} {x : ByteArray} (hj : j < L.length) : (L.set i x).getD j default = if i = j then x else L.getD j default := by
  rw [getD_of_lt (by rw [List.length_set]; exact hj), List.getElem_set, getD_of_lt hj]
theorem pw_get {R : List TR} (h : R.Pairwise fun x y => x.1 ≠ y.1) {i j : Nat} (hi : i < R.length) (hj : j < i) : (R.getD j default).1 ≠ (R.getD i default).1 := by
  rw [getD_of_lt hi, getD_of_lt (by omega)]
  exact List.pairwise_iff_getElem.1 h j i (by omega) hi hj
theorem cinv_ok {cap : Int} {D : List ByteArray} {R : List TR} {W : List ByteArray} {rd pt : Int} (h : cinv cap D R W) (h1 : 0 ≤ rd ∧ rd ≤ 1000000) (h2 : 0 ≤ pt ∧ pt ≤ 1000000) : cacheOk cap D R rd pt := by
  obtain ⟨⟨a1, a2, a3, a4, a5, a6⟩, a7, a8⟩ := h
  refine ⟨⟨a1, a2, a7, h1, h2⟩, fun i hi => (a4 i (by omega)).2, fun i hi => ?_⟩
  obtain ⟨b1, b2, b3⟩ := a6 _ (getD_mem hi)
  refine ⟨b1, fun j hj => pw_get a5 hi hj, ?_, b3⟩
  rw [b2]; exact (a4 _ (by omega)).1
theorem atR_hit {R : List TR} {v : Int} (h : 0 ≤ atR R v) : (atR R v).toNat < R.length ∧ (R.getD (atR R v).toNat default).1 = v := by
  obtain ⟨i, e, h1, h2, _⟩ := idx_nonneg h
  rw [show atR R v = (i : Int) from e]
  exact ⟨by simpa using h1, by simpa using h2⟩
theorem atR_miss {R : List TR} {v : Int} (h : ¬ 0 ≤ atR R v) : ∀ x ∈ R, x.1 ≠ v := by
  have := idx_any (fun x : TR => decide (x.1 = v)) R
  rw [decide_eq_false h] at this
  intro x hx
  have := List.any_eq_false.1 this.symm x hx
  simpa using this
theorem cinv_see {cap : Int} {D : List ByteArray} {R : List TR} {W : List ByteArray} {rd pt : Int} (h : cinv cap D R W) (h1 : 0 ≤ rd ∧ rd ≤ 1000000) (h2 : 0 ≤ pt ∧ pt ≤ 1000000) {b : Nat} (hb : b < 20) : seeC cap D R rd pt (b : Int) = W.getD b default := by
  have hok := cinv_ok h h1 h2
  obtain ⟨⟨a1, a2, a3, a4, a5, a6⟩, a7, a8⟩ := h
  unfold seeC
  rw [if_pos ⟨hok, by omega, by omega⟩]
  split
  · rename_i hc
    obtain ⟨c1, c2⟩ := atR_hit hc
    rw [(a6 _ (getD_mem c1)).2.1, c2]
    rfl
  · rename_i hc
    exact a8 b hb (atR_miss hc)
theorem cut_perm {R : List TR} {j : Nat} (hj : j < R.length) : R.Perm (R.getD j default :: woR R j) := by
  have e : R.take j ++ R.getD j default :: R.drop (j + 1) = R := by
    rw [getD_of_lt hj, ← List.drop_eq_getElem_cons hj, List.take_append_drop]
  have := List.perm_middle (a := R.getD j default) (l₁ := R.take j) (l₂ := R.drop (j + 1))
  rw [e] at this
  exact this
theorem cbase_sub {cap : Int} {D : List ByteArray} {R R' : List TR} {W : List ByteArray} (h : cbase cap D R W) {x : TR} (hp : R.Perm (x :: R')) : cbase cap D R' W ∧ ∀ y ∈ R', x.1 ≠ y.1 := by
  obtain ⟨a1, a2, a3, a4, a5, a6⟩ := h
  have := List.pairwise_cons.1 ((hp.pairwise_iff fun h e => h e.symm).1 a5)
  exact ⟨⟨a1, a2, a3, a4, this.2, fun y hy => a6 y (hp.mem_iff.2 (List.mem_cons_of_mem _ hy))⟩, this.1⟩
theorem room_inv {cap : Int} {D : List ByteArray} {R : List TR} {W : List ByteArray} (h : cinv cap D R W) (pt : Int) {v : Int} (hv : 0 ≤ v ∧ v ≤ 19) :
    cinv0 cap (room cap D R pt v).1 (room cap D R pt v).2.1 W v ∧ ((room cap D R pt v).2.2.2.1.1 = v ∧ (room cap D R pt v).2.2.2.1.2.1 = W.getD v.toNat default ∧ ((room cap D R pt v).2.2.2.1.2.2 = false → (room cap D R pt v).2.2.2.1.2.1 = (room cap D R pt v).1.getD v.toNat default)) ∧ pt ≤ (room cap D R pt v).2.2.1 ∧ (room cap D R pt v).2.2.1 ≤ pt + 1 := by
  obtain ⟨h0, h7, h8⟩ := h
  unfold room
  split
  · rename_i hc
    obtain ⟨c1, c2⟩ := atR_hit hc
    have hp := cut_perm c1
    obtain ⟨d1, d2⟩ := cbase_sub h0 hp
    have d3 := h0.2.2.2.2.2 _ (getD_mem c1)
    have hl := hp.length_eq
    rw [c2] at d2 d3
    simp only [List.length_cons] at hl
    refine ⟨⟨d1, by dsimp only; omega, fun x hx => (d2 x hx).symm, fun b hb hbv hx => h8 b hb fun y hy => ?_⟩, ⟨c2, d3.2.1, d3.2.2⟩, Int.le_refl _, by dsimp only; omega⟩
    rcases List.mem_cons.1 (hp.mem_iff.1 hy) with rfl | hy
    · rw [c2]; omega
    · exact hx y hy
  · rename_i hc
    have hm := atR_miss hc
    split
    · rename_i hfull
      have hcap := h0.1
      have h00 : 0 < R.length := by omega
      have hp := cut_perm h00
      obtain ⟨d1, d2⟩ := cbase_sub h0 hp
      obtain ⟨k1, k2, k3⟩ := h0.2.2.2.2.2 _ (getD_mem h00)
      have hl := hp.length_eq
      simp only [List.length_cons] at hl
      obtain ⟨a1, a2, a3, a4, a5, a6⟩ := d1
      have hD : ∀ b : Nat, b < 20 → (outD D R).getD b default = if (R.getD 0 default).1 = b then W.getD b default else D.getD b default := by
        intro b hb
        unfold outD
        split
        · rw [gsetB (by omega)]
          by_cases e : (R.getD 0 default).1 = b
          · rw [if_pos (by omega), if_pos e, k2, e]; rfl
          · rw [if_neg (by omega), if_neg e]
        · rename_i hd
          have := k3 (by simpa using hd)
          by_cases e : (R.getD 0 default).1 = b
          · rw [if_pos e]; rw [k2, e] at this; exact this.symm
          · rw [if_neg e]
      have hN : ∀ b : Nat, b < 20 → (∀ x ∈ woR R 0, x.1 ≠ b) → (outD D R).getD b default = W.getD b default := by
        intro b hb hx
        rw [hD b hb]
        split
        · rfl
        · rename_i e
          refine h8 b hb fun y hy => ?_
          rcases List.mem_cons.1 (hp.mem_iff.1 hy) with rfl | hy
          · exact e
          · exact hx y hy
      refine ⟨⟨⟨a1, by rw [outD_len]; exact a2, a3, fun b hb => ⟨(a4 b hb).1, ?_⟩, a5, fun x hx => ?_⟩, by dsimp only; omega, fun x hx => hm x (hp.mem_iff.2 (List.mem_cons_of_mem _ hx)), fun b hb _ hx => hN b hb hx⟩, ⟨rfl, ?_, fun _ => rfl⟩, ?_⟩
      · dsimp only
        rw [hD b hb]
        split
        · exact (a4 b hb).1
        · exact (a4 b hb).2
      · obtain ⟨b1, b2, b3⟩ := a6 x hx
        refine ⟨b1, b2, fun hd => ?_⟩
        have := d2 x hx
        dsimp only
        rw [hD _ (by omega), if_neg (by omega)]
        exact b3 hd
      · dsimp only
        have e : ((v.toNat : Nat) : Int) = v := by omega
        exact hN v.toNat (by omega) fun x hx => by rw [e]; exact hm x (hp.mem_iff.2 (List.mem_cons_of_mem _ hx))
      · dsimp only
        split <;> omega
    · rename_i hfull
      refine ⟨⟨h0, by dsimp only; omega, hm, fun b hb _ hx => h8 b hb hx⟩, ⟨rfl, ?_, fun _ => rfl⟩, Int.le_refl _, by dsimp only; omega⟩
      have e : ((v.toNat : Nat) : Int) = v := by omega
      exact h8 v.toNat (by omega) fun x hx => by rw [e]; exact hm x hx
theorem cinv_push {cap : Int} {D : List ByteArray} {R : List TR} {W : List ByteArray} {v : Int} (h : cinv0 cap D R W v) (hv : 0 ≤ v ∧ v ≤ 19) {x : TR} (e1 : x.1 = v) (e2 : x.2.1 = W.getD v.toNat default) (e3 : x.2.2 = false → x.2.1 = D.getD v.toNat default) : cinv cap D (R ++ [x]) W := by
  obtain ⟨⟨a1, a2, a3, a4, a5, a6⟩, h7, h8, h9⟩ := h
  refine ⟨⟨a1, a2, a3, a4, ?_, fun y hy => ?_⟩, by simp; omega, fun b hb hx => h9 b hb ?_ fun y hy => hx y (List.mem_append_left _ hy)⟩
  · rw [List.pairwise_append]
    refine ⟨a5, List.pairwise_singleton _ _, fun y hy z hz => ?_⟩
    rw [List.mem_singleton.1 hz, e1]; exact h8 y hy
  · rcases List.mem_append.1 hy with hy | hy
    · exact a6 y hy
    · rw [List.mem_singleton.1 hy, e1]
      exact ⟨hv, e2, e3⟩
  · have := hx x (List.mem_append_right _ (List.mem_singleton.2 rfl))
    rw [e1] at this; omega
theorem cinv_put {cap : Int} {D : List ByteArray} {R : List TR} {W : List ByteArray} {v : Int} (h : cinv0 cap D R W v) (hv : 0 ≤ v ∧ v ≤ 19) {t : ByteArray} (ht : t.size ≤ 20) : cinv cap D (R ++ [(v, t, true)]) (W.set v.toNat t) := by
  obtain ⟨⟨a1, a2, a3, a4, a5, a6⟩, h7, h8, h9⟩ := h
  refine cinv_push (v := v) ⟨⟨a1, a2, by simpa using a3, fun b hb => ⟨?_, (a4 b hb).2⟩, a5, fun y hy => ?_⟩, h7, h8, fun b hb hbv hx => ?_⟩ hv rfl ?_ (fun h => by cases h)
  · rw [gsetB (by omega)]
    split
    · exact ht
    · exact (a4 b hb).1
  · obtain ⟨b1, b2, b3⟩ := a6 y hy
    have := h8 y hy
    refine ⟨b1, ?_, b3⟩
    rw [gsetB (by omega), if_neg (by omega)]; exact b2
  · rw [gsetB (by omega), if_neg (by omega)]; exact h9 b hb hbv hx
  · rw [gsetB (by omega), if_pos rfl]
theorem get_law {cap : Int} {D : List ByteArray} {R : List TR} {W : List ByteArray} {rd pt v : Int} (h : cinv cap D R W) (hv : 0 ≤ v ∧ v ≤ 19) (h1 : 0 ≤ rd ∧ rd < 1000000) (h2 : 0 ≤ pt ∧ pt < 1000000) :
    (getO cap D R rd pt v).1.1 = cap ∧ cinv cap (getO cap D R rd pt v).1.2.1 (getO cap D R rd pt v).1.2.2.1 W ∧ (rd ≤ (getO cap D R rd pt v).1.2.2.2.1 ∧ (getO cap D R rd pt v).1.2.2.2.1 ≤ rd + 1) ∧ (pt ≤ (getO cap D R rd pt v).1.2.2.2.2 ∧ (getO cap D R rd pt v).1.2.2.2.2 ≤ pt + 1) ∧ (getO cap D R rd pt v).2.2.1 = W.getD v.toNat default ∧ (getO cap D R rd pt v).2.2.2 = true := by
  have hok := cinv_ok h (rd := rd) (pt := pt) (by omega) (by omega)
  obtain ⟨g1, ⟨g2, g3, g4⟩, g5⟩ := room_inv h pt hv
  unfold getO
  rw [if_pos hok, if_pos ⟨hv, h1.2, h2.2⟩]
  refine ⟨rfl, cinv_push g1 hv g2 g3 g4, ?_, g5, g3, rfl⟩
  show rd ≤ (ask cap D R rd pt v true).2.2.2.1 ∧ (ask cap D R rd pt v true).2.2.2.1 ≤ rd + 1
  unfold ask
  dsimp only
  split <;> omega
theorem put_law {cap : Int} {D : List ByteArray} {R : List TR} {W : List ByteArray} {rd pt v : Int} {t : ByteArray} (h : cinv cap D R W) (hv : 0 ≤ v ∧ v ≤ 19) (h1 : 0 ≤ rd ∧ rd < 1000000) (h2 : 0 ≤ pt ∧ pt < 1000000) (ht : t.size ≤ 20) :
    (putO cap D R rd pt v t).1.1 = cap ∧ cinv cap (putO cap D R rd pt v t).1.2.1 (putO cap D R rd pt v t).1.2.2.1 (W.set v.toNat t) ∧ (putO cap D R rd pt v t).1.2.2.2.1 = rd ∧ (pt ≤ (putO cap D R rd pt v t).1.2.2.2.2 ∧ (putO cap D R rd pt v t).1.2.2.2.2 ≤ pt + 1) ∧ (putO cap D R rd pt v t).2.2.2 = true := by
  have hok := cinv_ok h (rd := rd) (pt := pt) (by omega) (by omega)
  obtain ⟨g1, _, g5⟩ := room_inv h pt hv
  unfold putO
  rw [if_pos hok, if_pos ⟨⟨hv, h1.2, h2.2⟩, ht⟩]
  exact ⟨rfl, cinv_put g1 hv ht, rfl, g5, rfl⟩
theorem syD_get {cap : Int} {D : List ByteArray} {R : List TR} {W : List ByteArray} (h : cinv cap D R W) : ∀ i, i ≤ R.length → ∀ b : Nat, b < 20 → (syD D R i).getD b default = W.getD b default ∨ ((syD D R i).getD b default = D.getD b default ∧ ∀ j, j < i → (R.getD j default).1 = b → (R.getD j default).2.2 = false)
  | 0, _, b, _ => .inr ⟨rfl, fun j hj => absurd hj (by omega)⟩
  | i + 1, hi, b, hb => by
    have ih := syD_get h i (by omega) b hb
    obtain ⟨k1, k2, k3⟩ := h.1.2.2.2.2.2 _ (getD_mem (show i < R.length by omega))
    have hlen := syD_len D R i
    have hD := h.1.2.1
    unfold syD
    split
    · rename_i hd
      rw [gsetB (by omega)]
      by_cases e : (R.getD i default).1 = b
      · rw [if_pos (by omega)]; exact .inl (by rw [k2, e]; rfl)
      · rw [if_neg (by omega)]
        refine ih.imp id fun ⟨g1, g2⟩ => ⟨g1, fun j hj hjb => ?_⟩
        rcases Nat.lt_or_ge j i with hlt | hge
        · exact g2 j hlt hjb
        · obtain rfl : j = i := by omega
          exact absurd hjb e
    · rename_i hd
      refine ih.imp id fun ⟨g1, g2⟩ => ⟨g1, fun j hj hjb => ?_⟩
      rcases Nat.lt_or_ge j i with hlt | hge
      · exact g2 j hlt hjb
      · obtain rfl : j = i := by omega
        simpa using hd
theorem syD_all {cap : Int} {D : List ByteArray} {R : List TR} {W : List ByteArray} (h : cinv cap D R W) {b : Nat} (hb : b < 20) : (syD D R R.length).getD b default = W.getD b default := by
  rcases syD_get h R.length (Nat.le_refl _) b hb with e | ⟨e, hd⟩
  · exact e
  · rw [e]
    by_cases hx : ∃ x ∈ R, x.1 = b
    · obtain ⟨x, hx, hxb⟩ := hx
      obtain ⟨j, hj, rfl⟩ := List.getElem_of_mem hx
      obtain ⟨k1, k2, k3⟩ := h.1.2.2.2.2.2 _ hx
      have := hd j hj (by rw [getD_of_lt hj]; exact hxb)
      rw [getD_of_lt hj] at this
      have e3 := k3 this
      rw [hxb] at e3 k2
      rw [k2] at e3
      exact e3.symm
    · exact h.2.2 b hb fun x hxm hxb => hx ⟨x, hxm, hxb⟩
theorem syN_clr (R : List TR) : ∀ i, syN (R.map clr) i = 0
  | 0 => rfl
  | i + 1 => by
    unfold syN
    rw [syN_clr R i]
    split
    · rename_i hd
      rcases Nat.lt_or_ge i R.length with hlt | hge
      · rw [getD_map hlt] at hd; cases hd
      · rw [List.getD_eq_getElem?_getD, List.getElem?_eq_none (by simpa using hge)] at hd; cases hd
    · rfl
theorem sync_law {cap : Int} {D : List ByteArray} {R : List TR} {W : List ByteArray} {rd pt : Int} (h : cinv cap D R W) (h1 : 0 ≤ rd ∧ rd ≤ 1000000) (h2 : 0 ≤ pt ∧ pt ≤ 1000000) :
    (syncO cap D R rd pt).1 = (cap, syD D R R.length, R.map clr, rd, pt) ∧ cinv cap (syD D R R.length) (R.map clr) W ∧ (0 ≤ (syncO cap D R rd pt).2.1 ∧ (syncO cap D R rd pt).2.1 ≤ R.length) ∧ (syncO cap D R rd pt).2.2.2 = true ∧ (syncO cap (syD D R R.length) (R.map clr) rd pt).2.1 = 0 := by
  have hok := cinv_ok h h1 h2
  have hn : cinv cap (syD D R R.length) (R.map clr) W := by
    have hall := fun b hb => syD_all h (b := b) hb
    obtain ⟨⟨a1, a2, a3, a4, a5, a6⟩, a7, a8⟩ := h
    refine ⟨⟨a1, by rw [syD_len]; exact a2, a3, fun b hb => ⟨(a4 b hb).1, by rw [hall b hb]; exact (a4 b hb).1⟩, ?_, fun x hx => ?_⟩, by simpa using a7, fun b hb _ => hall b hb⟩
    · rw [List.pairwise_map]; exact a5
    · obtain ⟨y, hy, rfl⟩ := List.mem_map.1 hx
      obtain ⟨b1, b2, b3⟩ := a6 y hy
      refine ⟨b1, b2, fun _ => ?_⟩
      show y.2.1 = _
      rw [b2, show (clr y).1 = y.1 from rfl, hall _ (by omega)]
  have hok2 := cinv_ok hn h1 h2
  unfold syncO
  rw [if_pos hok, if_pos hok2]
  have := syN_le R R.length
  exact ⟨rfl, hn, ⟨by dsimp only; omega, by dsimp only; omega⟩, rfl, by dsimp only; rw [syN_clr]; rfl⟩
theorem wu8 {x : Int} (h0 : 0 ≤ x) (h1 : x ≤ 255) : IntKind.u8.wrap x = ((UInt8.ofNat x.toNat).toNat : Int) := by
  rw [UInt8.toNat_ofNat']
  unfold IntKind.wrap
  simp [IntKind.bits, IntKind.signed]
  omega
theorem cinv_new {cap : Int} (hc : 1 ≤ cap ∧ cap ≤ 6) : cinv cap (List.replicate 20 ByteArray.empty) [] (List.replicate 20 ByteArray.empty) := by
  have he : ∀ b, b < 20 → (List.replicate 20 ByteArray.empty).getD b default = ByteArray.empty := fun b hb => by
    rw [getD_of_lt (by simpa using hb), List.getElem_replicate]
  refine ⟨⟨hc, by simp, by simp, fun b hb => ?_, List.Pairwise.nil, fun x hx => by simp at hx⟩, by simp; omega, fun b hb _ => rfl⟩
  rw [he b hb]
  exact ⟨by decide, by decide⟩
theorem rep_str (n : Nat) : List.map enc (List.replicate n ByteArray.empty) = List.replicate n [AC.str ByteArray.empty] := by
  rw [List.map_replicate]; rfl
end Go.Eng.T
