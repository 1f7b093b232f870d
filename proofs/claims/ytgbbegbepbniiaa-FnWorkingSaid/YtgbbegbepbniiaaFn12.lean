/- faults: a row that another's proof sorts. -/
import Derived.Test.YtgbbegbepbniiaaFn11
import Derived.Sort.Grow
set_option linter.unusedVariables false
set_option linter.unusedSimpArgs false
set_option linter.unusedSectionVars false
namespace Go.Eng
open Go.Sort
theorem Mt_grow {W : Nat → Prop} {w0 : World} {ρ0 : Env} {S : St} {a : Act} {w : World} (hm : Mt W w0 ρ0 S a w) (os : Array Obj) : Mt W w0 ρ0 S a (grow w os) := by
  intro ρ hρ
  have hr := hm ρ hρ
  have hold : ∀ b, b < w.heap.size → (grow w os).heap[b]? = w.heap[b]? := fun b hb => by simp [grow, Array.getElem?_append_left hb]
  have hf := hr.fr
  exact ⟨⟨fun x g h => RegOk_old hold (hr.mem.regs x g h), hr.mem.dis, hr.mem.wr, fun x g i h hh => by have := hr.mem.lt x g i h hh; simp; omega⟩, ⟨hf.os, hf.tape, hf.output, by have := hf.size; simp; omega, fun b hb hw => by rw [hold b (by have := hf.size; omega)]; exact hf.block b hb hw⟩, hr.size, hr.tmps, hr.defers⟩
def Env.oneUp (ρ0 : Env) : Env := ⟨fun x i => match x with | .out y => ρ0.blk y i | _ => 0, fun x i => match x with | .out y => ρ0.base y i | _ => 0, fun x => match x with | .out y => ρ0.sz y | _ => 0⟩
theorem Mt_enter0 {W : Nat → Prop} {ρ0 : Env} {M : RId → Option Rg} {w : World} (hin : ∀ ρ, Agree M ρ0 ρ → MemOk W w.heap.size ρ M w) : Mt W w ρ0.oneUp (St.enter 0 [] M) { tmps := #[], defers := [] } w := by
  intro ρ hρ
  have hag : Agree M ρ0 (ρ.pull .out) := fun x g e => by
    have := hρ (.out x) g.up (by rw [look_enter]; simp [e])
    exact ⟨fun i => this.blk i, fun i => this.base i, this.sz⟩
  have hM := hin _ hag
  have hlk : ∀ x g, (St.enter 0 [] M).look x = some g → ∃ y g0, x = .out y ∧ M y = some g0 ∧ g = g0.map .out := by
    intro x g e
    rw [look_enter] at e
    cases x with
    | out y =>
      cases hy : M y with
      | none => simp [hy] at e
      | some g0 => simp [hy] at e; exact ⟨y, g0, rfl, hy, by rw [← e, Rg.up_map]⟩
    | _ => cases e
  refine ⟨⟨fun x g e => ?_, fun x g i x' g' i' e ho hh e' hh' hne => ?_, fun x g i e ho hh => ?_, fun x g i e hh => ?_⟩, ⟨rfl, rfl, rfl, Nat.le_refl _, fun _ _ _ => rfl⟩, rfl, fun t s e => ?_, rfl⟩
  · obtain ⟨y, g0, rfl, hy, rfl⟩ := hlk x g e
    exact RegOk_map.2 (hM.regs y g0 hy)
  · obtain ⟨y, g0, rfl, hy, rfl⟩ := hlk x g e
    obtain ⟨y', g0', rfl, hy', rfl⟩ := hlk x' g' e'
    exact hM.dis y g0 i y' g0' i' hy (by rwa [Rg.own_map] at ho) ((Rg.has_map _ _ _).1 hh) hy' ((Rg.has_map _ _ _).1 hh') (hne.imp (fun h e => h (by rw [e])) id)
  · obtain ⟨y, g0, rfl, hy, rfl⟩ := hlk x g e
    exact hM.wr y g0 i hy (by rwa [Rg.own_map] at ho) ((Rg.has_map _ _ _).1 hh)
  · obtain ⟨y, g0, rfl, hy, rfl⟩ := hlk x g e
    exact hM.lt y g0 i hy ((Rg.has_map _ _ _).1 hh)
  · simp [St.enter] at e
theorem callOK_sortI {P : Program} {f : FuncId}
    (hc : ∀ (blk off cap : Nat) (zs : List Int) (w : World), Holds (Value.int .i64) w blk off zs.toArray → blk < w.heap.size → zs.length < 4611686018427387904 →
      Calls P f #[.slice (some ⟨blk, off, none⟩) zs.length cap] w fun e w' => e = .returned (.tuple #[]) ∧ ∃ n os, w' = grow (putRow (Value.int .i64) (Go.Sort.ahead w n) blk off (zs.mergeSort fun x y => decide (x ≤ y)).toArray) os)
    {M : RId → Option Rg} {r : RId} {ty : TypeId} {c cap : Nat} {X : List Int} (hM : M r = some (rowG true ty cap X)) (h1 : 1 ≤ X.length) (h2 : X.length ≤ c) (h3 : c ≤ cap) (h4 : X.length ≤ 4294967296) :
    CallOK P f [.c (.sl ⟨r, 0, 0, 0⟩ X.length c)] M Unit (fun _ => True) (fun _ => .tup []) (fun _ => []) (fun _ => [(r, rowG true ty cap (X.mergeSort fun x y => decide (x ≤ y)))]) := by
  intro W ρ0 w vs hnil hin
  obtain ⟨hm, hA⟩ := hin ρ0 (Agree.refl _ _)
  match vs, hA with
  | [u], ⟨hu, _⟩ =>
    obtain ⟨o, rfl, _, ho⟩ := hu
    obtain rfl := ho (by omega)
    obtain ⟨hsz, hreg⟩ := hm.regs _ _ hM
    obtain ⟨hle, hcell, hown⟩ := hreg 0 (by simp)
    obtain ⟨hb0, cur, hcur, hcs⟩ := hown rfl (by simpa using (by omega : 0 < cap))
    have hlt := lt_of_block hcur
    have hcell' : ∀ j, j < X.length → w.cell? ⟨ρ0.blk r 0, j, none⟩ = some (Value.int .i64 (X.getD j default)) := fun j hj => by
      obtain ⟨_, hk2⟩ := hcell j (by simpa using hj)
      have he : (List.map Cel.enc X).getD j [] = [AC.int .i64 (X.getD j default)] := getD_enc _ _ hj
      obtain ⟨v, hv, hvi⟩ := hk2 0 (AC.int .i64 (X.getD j default)) (by show ((List.map Cel.enc X).getD j [])[0]? = _; rw [he]; rfl)
      rw [hb0] at hv
      have hvi : v = _ := hvi
      rw [hvi] at hv
      have hsz1 : Cel.sz Int = 1 := rfl
      simpa [hsz1] using hv
    have hholds : Holds (Value.int .i64) w (ρ0.blk r 0) 0 X.toArray := fun j hj => by
      have hj' : j < X.length := by simpa using hj
      refine ⟨?_, by simp [World.frozen?, hcur]⟩
      rw [Nat.zero_add, hcell' j hj']
      congr 2
      simp [getD_of_lt hj', hj']
    have hconc : (AA.conc ρ0 ⟨r, 0, 0, 0⟩) = ⟨ρ0.blk r 0, 0, none⟩ := by simp [AA.conc, hb0]
    rw [hconc]
    refine (hc (ρ0.blk r 0) 0 c X w hholds hlt (by omega)).mono ?_
    rintro e w' ⟨rfl, n, os, rfl⟩
    have hm0 := Mt_enter0 (ρ0 := ρ0) (M := M) (W := W) (w := w) fun ρ hρ => (hin ρ hρ).1
    have hX : (X.mergeSort fun x y => decide (x ≤ y)).length = X.length := List.length_mergeSort _
    have hlk : (St.enter 0 [] M).look (.out r) = some (rowG true ty cap X).up := by rw [look_enter]; simp [hM]
    have hheap : (putRow (Value.int .i64) (Go.Sort.ahead w n) (ρ0.blk r 0) 0 (X.mergeSort fun x y => decide (x ≤ y)).toArray).heap = (putRow (Value.int .i64) w (ρ0.blk r 0) 0 (X.mergeSort fun x y => decide (x ≤ y)).toArray).heap := rfl
    have hm1 := Mt_write (x := .out r) (g := rowG true ty cap (X.mergeSort fun x y => decide (x ≤ y))) (i0 := 0) (w' := putRow (Value.int .i64) (Go.Sort.ahead w n) (ρ0.blk r 0) 0 (X.mergeSort fun x y => decide (x ≤ y)).toArray) hm0 hlk rfl
      ⟨by simp, by simpa using (by omega : 0 < cap)⟩ (fun b hb => by
        have hb' : ρ0.blk r 0 ≠ b := fun e => hb (by rw [← e]; rfl)
        simp [putRow, mapBlock, Array.getElem?_modify, hb']) (by simp) rfl rfl rfl (fun _ => rfl) (fun i hi => by
        have : i < 1 ∧ 0 < ([(cap, List.map Cel.enc (X.mergeSort fun x y => decide (x ≤ y)))].getD i (0, [])).1 := hi
        obtain ⟨hi1, hi2⟩ := this
        obtain rfl : i = 0 := by omega
        exact ⟨by simp, by simpa using hi2⟩) (by
        intro ρ hρ hr _ _
        have hsame := hρ _ _ hlk
        have hblk : ρ.blk (.out r) 0 = ρ0.blk r 0 := (hsame.blk 0).symm
        have hbase : ρ.base (.out r) 0 = 0 := (hsame.base 0).symm.trans hb0
        refine ⟨hr.1, fun i hi => ?_⟩
        obtain rfl : i = 0 := by simpa using hi
        refine ⟨?_, fun k hk => ?_, fun _ _ => ⟨hbase, ?_⟩⟩
        · simpa [hX] using hle
        · have hk' : k < (X.mergeSort fun x y => decide (x ≤ y)).length := by simpa using hk
          have he : (List.map Cel.enc (X.mergeSort fun x y => decide (x ≤ y))).getD k [] = [AC.int .i64 ((X.mergeSort fun x y => decide (x ≤ y)).getD k default)] := getD_enc _ _ hk'
          refine ⟨by show ((List.map Cel.enc (X.mergeSort fun x y => decide (x ≤ y))).getD k []).length = _; rw [he]; rfl, fun f d hd => ?_⟩
          have hd' : ([AC.int .i64 ((X.mergeSort fun x y => decide (x ≤ y)).getD k default)] : List AC)[f]? = some d := by rw [← he]; exact hd
          have hf : f = 0 := by
            rcases Nat.eq_zero_or_pos f with h | h
            · exact h
            · rw [List.getElem?_eq_none (by simp; omega)] at hd'; cases hd'
          subst hf
          simp at hd'
          subst hd'
          refine ⟨Value.int .i64 ((X.mergeSort fun x y => decide (x ≤ y)).getD k default), ?_, rfl⟩
          rw [hblk, hbase]
          have := cell?_putRow (Value.int .i64) (Go.Sort.ahead w n) (ρ0.blk r 0) 0 X.toArray (X.mergeSort fun x y => decide (x ≤ y)).toArray hholds (by simp) k (by simpa using hk')
          simp only [Nat.zero_add] at this
          have hsz1 : Cel.sz Int = 1 := rfl
          simp only [hsz1, Nat.mul_one, Nat.zero_add, Nat.add_zero]
          rw [this]
          congr 2
          simp [getD_of_lt hk', hk']
        · rw [hblk]
          refine ⟨putCells (Value.int .i64) 0 (X.mergeSort fun x y => decide (x ≤ y)).toArray cur, ?_, ?_⟩
          · simp [putRow, mapBlock, Array.getElem?_modify, hcur, onCells]
          · simpa [putCells] using hcs)
    have hm2 := Mt_grow hm1 os
    have haft : aft M [(r, rowG true ty cap (X.mergeSort fun x y => decide (x ≤ y)))] [] = ((St.enter 0 [] M).setRg (.out r) (rowG true ty cap (X.mergeSort fun x y => decide (x ≤ y)))).look := by
      funext x
      rw [look_setRg hlk, look_enter]
      cases x with
      | nil => simp [aft]
      | loc j => simp [aft]
      | out y =>
        simp only [aft, findO, RId.out.injEq]
        by_cases e : r = y
        · simp [e]
        · rw [if_neg e, if_neg (Ne.symm e)]
    refine ⟨(), ρ0.oneUp, .tuple #[], trivial, rfl, (hm2 _ (Agree.refl _ _)).fr, fun _ _ => rfl, fun _ _ => rfl, fun _ => rfl, fun p hp => ?_, fun ρ hρ => ⟨?_, ⟨[], rfl, rfl, fun j b cs u h => by simp at h⟩⟩⟩
    · obtain rfl := List.mem_singleton.1 hp
      rw [hM]; rfl
    · rw [haft] at hρ ⊢
      exact (hm2 ρ hρ).mem
end Go.Eng
