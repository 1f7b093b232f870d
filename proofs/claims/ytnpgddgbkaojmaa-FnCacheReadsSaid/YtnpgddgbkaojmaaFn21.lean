/- cache: what is counted of faults, in plain terms. -/
import Derived.Test.YtnpgddgbkaojmaaFn20
set_option linter.unusedVariables false
set_option linter.unusedSimpArgs false
set_option linter.unusedSectionVars false
namespace Go.Eng.T
def wo (l : List Int) (j : Nat) : List Int := l.take j ++ l.drop (j + 1)
theorem wo_len {l : List Int} {j : Nat} (h : j < l.length) : (wo l j).length = l.length - 1 := by simp [wo]; omega
abbrev at1 (l : List Int) (p : Int) : Int := idx (fun x => decide (x = p)) l
theorem at1_range (l : List Int) (p : Int) : -1 ≤ at1 l p ∧ at1 l p < l.length := idx_range _ _
def stepL (rc : Bool) (vic : List Int → Nat → Nat) (f : Int) (i : Nat) (l : List Int) (p : Int) : List Int :=
  if 0 ≤ at1 l p then (if rc then wo l (at1 l p).toNat ++ [p] else l) else (if f ≤ l.length then wo l (vic l i) else l) ++ [p]
def runL (rc : Bool) (vic : List Int → Nat → Nat) (f : Int) (X : List Int) : Nat → List Int
  | 0 => []
  | i + 1 => stepL rc vic f i (runL rc vic f X i) (X.getD i default)
def runN (rc : Bool) (vic : List Int → Nat → Nat) (f : Int) (X : List Int) : Nat → Nat
  | 0 => 0
  | i + 1 => if 0 ≤ at1 (runL rc vic f X i) (X.getD i default) then runN rc vic f X i else runN rc vic f X i + 1
def faultsOk (X : List Int) (f : Int) : Prop := X.length ≤ 200 ∧ (1 ≤ f ∧ f ≤ 20) ∧ ∀ i, i < X.length → 0 ≤ X.getD i default ∧ X.getD i default ≤ 99
instance (X : List Int) (f : Int) : Decidable (faultsOk X f) := by unfold faultsOk; infer_instance
def cntF (rc : Bool) (vic : List Int → Nat → Nat) (X : List Int) (f : Int) : Int := if faultsOk X f then runN rc vic f X X.length else 0
section
variable {rc : Bool} {vic : List Int → Nat → Nat} {f : Int} {X : List Int} {i : Nat}
theorem runN_le (i : Nat) : runN rc vic f X i ≤ i := by
  induction i with
  | zero => exact Nat.le_refl _
  | succ i ih =>
    unfold runN
    split <;> omega
theorem runL_len (hf : 1 ≤ f) (hv : ∀ l i, 1 ≤ l.length → vic l i < l.length) (i : Nat) : ((runL rc vic f X i).length : Int) ≤ f := by
  induction i with
  | zero => simp [runL]; omega
  | succ i ih =>
    unfold runL stepL
    split
    · rename_i h
      have hr := at1_range (runL rc vic f X i) (X.getD i default)
      split
      · rw [List.length_append, wo_len (by omega)]
        simp; omega
      · exact ih
    · split
      · rename_i h
        rw [List.length_append, wo_len (hv _ _ (by omega))]
        simp; omega
      · rw [List.length_append]; simp; omega
theorem runN_hit (h : 0 ≤ at1 (runL rc vic f X i) (X.getD i default)) : runN rc vic f X (i + 1) = runN rc vic f X i := if_pos h
theorem runN_miss (h : ¬ 0 ≤ at1 (runL rc vic f X i) (X.getD i default)) : runN rc vic f X (i + 1) = runN rc vic f X i + 1 := if_neg h
theorem runL_stay (h : 0 ≤ at1 (runL false vic f X i) (X.getD i default)) : runL false vic f X (i + 1) = runL false vic f X i := by
  rw [runL, stepL, if_pos h]; rfl
theorem runL_end (h : 0 ≤ at1 (runL true vic f X i) (X.getD i default)) : runL true vic f X (i + 1) = wo (runL true vic f X i) (at1 (runL true vic f X i) (X.getD i default)).toNat ++ [X.getD i default] := by
  rw [runL, stepL, if_pos h]; rfl
theorem runL_full (h : ¬ 0 ≤ at1 (runL rc vic f X i) (X.getD i default)) (hf : f ≤ (runL rc vic f X i).length) : runL rc vic f X (i + 1) = wo (runL rc vic f X i) (vic (runL rc vic f X i) i) ++ [X.getD i default] := by
  rw [runL, stepL, if_neg h, if_pos hf]
theorem runL_room (h : ¬ 0 ≤ at1 (runL rc vic f X i) (X.getD i default)) (hf : ¬ f ≤ (runL rc vic f X i).length) : runL rc vic f X (i + 1) = runL rc vic f X i ++ [X.getD i default] := by
  rw [runL, stepL, if_neg h, if_neg hf]
end
/-! the best one -/
/-- when p is asked for again, told from place i on -/
def nxt (X : List Int) (i : Nat) (p : Int) : Int := if 0 ≤ idx (fun x => decide (x = p)) (X.drop i) then idx (fun x => decide (x = p)) (X.drop i) else X.length
def worse (key : Int → Int) (l : List Int) (k m : Nat) : Prop := key (l.getD k default) > key (l.getD m default) ∨ (key (l.getD k default) = key (l.getD m default) ∧ l.getD k default < l.getD m default)
instance (key : Int → Int) (l : List Int) (k m : Nat) : Decidable (worse key l k m) := by unfold worse; infer_instance
def wst (key : Int → Int) (l : List Int) : Nat → Nat
  | 0 => 0
  | k + 1 => if k = 0 then 0 else if worse key l k (wst key l k) then k else wst key l k
theorem wst_lt (key : Int → Int) (l : List Int) : ∀ k, 0 < k → wst key l k < k
  | k + 1, _ => by
    unfold wst
    split
    · omega
    · split
      · omega
      · have := wst_lt key l k (by omega)
        omega
def vicB (X : List Int) (l : List Int) (i : Nat) : Nat := wst (nxt X i) l l.length
theorem vicB_lt (X : List Int) (l : List Int) (i : Nat) (h : 1 ≤ l.length) : vicB X l i < l.length := wst_lt _ _ _ (by omega)
/-- when p is asked for behind place i -/
def again (X : List Int) (i : Nat) (p : Int) : Int := if 0 ≤ idx (fun x => decide (x = p)) (X.drop (i + 1)) then idx (fun x => decide (x = p)) (X.drop (i + 1)) + (i + 1) else X.length
theorem idx_cons {p : Int → Bool} {x : Int} {L : List Int} (h : p x = false) : idx p (x :: L) = if 0 ≤ idx p L then idx p L + 1 else -1 := by
  unfold idx
  rw [List.findIdx?_cons, if_neg (by simp [h])]
  cases L.findIdx? p with
  | none => rfl
  | some i => simp
theorem nxt_again {X : List Int} {i : Nat} {p : Int} (hi : i < X.length) (hp : X.getD i default ≠ p) :
    (nxt X i p = X.length ∧ again X i p = X.length) ∨ (nxt X i p < X.length - i ∧ again X i p = nxt X i p + i) := by
  have hd : X.drop i = X[i] :: X.drop (i + 1) := List.drop_eq_getElem_cons hi
  have hr := idx_range (fun x => decide (x = p)) (X.drop (i + 1))
  rw [List.length_drop] at hr
  have hc := idx_cons (p := fun x => decide (x = p)) (x := X[i]) (L := X.drop (i + 1)) (by rw [getD_of_lt hi] at hp; simpa using hp)
  unfold nxt again
  rw [hd, hc]
  by_cases h : 0 ≤ idx (fun x => decide (x = p)) (X.drop (i + 1))
  · right
    rw [if_pos h, if_pos (by omega), if_pos h]
    omega
  · left
    rw [if_neg h, if_neg (by omega), if_neg h]
    exact ⟨rfl, rfl⟩
theorem worse_same {X : List Int} {i : Nat} {l : List Int} (hi : i < X.length) (hn : ¬ 0 ≤ at1 l (X.getD i default)) {a b : Nat} (ha : a < l.length) (hb : b < l.length) :
    worse (again X i) l a b ↔ worse (nxt X i) l a b := by
  have hq : ∀ k, k < l.length → X.getD i default ≠ l.getD k default := fun k hk e => by
    apply hn
    have := idx_any (fun x => decide (x = X.getD i default)) l
    have h2 : l.any (fun x => decide (x = X.getD i default)) = true := List.any_eq_true.2 ⟨_, getD_mem hk, decide_eq_true e.symm⟩
    rw [h2] at this
    simpa using this
  have h1 := nxt_again hi (hq a ha)
  have h2 := nxt_again hi (hq b hb)
  unfold worse
  constructor <;> intro h <;> omega
theorem wst_congr {key key' : Int → Int} {l : List Int} (h : ∀ a b, a < l.length → b < l.length → (worse key l a b ↔ worse key' l a b)) : ∀ k, k ≤ l.length → wst key l k = wst key' l k
  | 0, _ => rfl
  | k + 1, hk => by
    have ih := wst_congr h k (by omega)
    unfold wst
    split
    · rfl
    · have := wst_lt key' l k (by omega)
      rw [ih]
      simp only [h k (wst key' l k) (by omega) (by omega)]
theorem vicB_again {X : List Int} {i : Nat} {l : List Int} (hi : i < X.length) (hn : ¬ 0 ≤ at1 l (X.getD i default)) : vicB X l i = wst (again X i) l l.length :=
  (wst_congr (fun _ _ ha hb => worse_same hi hn ha hb) _ (Nat.le_refl _)).symm
theorem cntF_range (rc : Bool) (vic : List Int → Nat → Nat) (X : List Int) (f : Int) : 0 ≤ cntF rc vic X f ∧ cntF rc vic X f ≤ X.length := by
  unfold cntF
  have := runN_le (rc := rc) (vic := vic) (f := f) (X := X) X.length
  split <;> omega
/-! a cache and its frames -/
abbrev v0 : List Int → Nat → Nat := fun _ _ => 0
theorem getD_append_left {X : List Int} {b d : Int} {i : Nat} (h : i + 1 ≤ X.length) : (X ++ [b]).getD i d = X.getD i d := by
  rw [List.getD_eq_getElem?_getD, List.getD_eq_getElem?_getD, List.getElem?_append_left (by omega)]
theorem getD_append_end {X : List Int} {b d : Int} : (X ++ [b]).getD X.length d = b := by
  rw [List.getD_eq_getElem?_getD, List.getElem?_append_right (Nat.le_refl _)]
  simp
def blk (R : List TR) : List Int := R.map (·.1)
theorem blk_at (R : List TR) (v : Int) : at1 (blk R) v = atR R v := by
  unfold at1 blk atR idx
  rw [List.findIdx?_map]
  rfl
theorem blk_wo (R : List TR) (j : Nat) : blk (woR R j) = wo (blk R) j := by
  unfold blk woR wo
  rw [List.map_append, List.map_take, List.map_drop]
theorem blk_len (R : List TR) : (blk R).length = R.length := by simp [blk]
theorem get_step {cap : Int} {D : List ByteArray} {R : List TR} {rd pt v : Int} (i : Nat) (hok : cacheOk cap D R rd pt) (hm : mayC rd pt v) (hc : ∀ x ∈ R, x.2.2 = false) (h1 : 1 ≤ cap) :
    blk (getO cap D R rd pt v).1.2.2.1 = stepL true v0 cap i (blk R) v ∧ (getO cap D R rd pt v).1.2.2.2.1 = (if 0 ≤ at1 (blk R) v then rd else rd + 1) ∧ (getO cap D R rd pt v).1.2.2.2.2 = pt ∧ ∀ x ∈ (getO cap D R rd pt v).1.2.2.1, x.2.2 = false := by
  unfold getO
  rw [if_pos hok, if_pos hm]
  unfold ask stepL room
  rw [blk_at, blk_len]
  by_cases h : 0 ≤ atR R v
  · obtain ⟨c1, c2⟩ := atR_hit h
    simp only [if_pos h, and_true, if_true, reduceCtorEq, and_false, if_false, Bool.true_eq_false]
    refine ⟨?_, trivial, trivial, fun x hx => ?_⟩
    · rw [← blk_wo]
      unfold blk
      rw [List.map_append, List.map_singleton, c2]
    · rcases List.mem_append.1 hx with hx | hx
      · refine hc x ?_
        rcases List.mem_append.1 hx with hx | hx
        · exact List.mem_of_mem_take hx
        · exact List.mem_of_mem_drop hx
      · rw [List.mem_singleton.1 hx]
        exact hc _ (getD_mem c1)
  · by_cases hf : cap ≤ (R.length : Int)
    · have h0 : 0 < R.length := by omega
      have hc0 : (R.getD 0 default).2.2 = false := hc _ (getD_mem h0)
      simp only [if_neg h, if_pos hf, hc0, and_true, if_true, Bool.false_eq_true, if_false]
      refine ⟨?_, trivial, trivial, fun x hx => ?_⟩
      · unfold v0
        rw [← blk_wo]
        unfold blk
        rw [List.map_append, List.map_singleton]
      · rcases List.mem_append.1 hx with hx | hx
        · refine hc x ?_
          rcases List.mem_append.1 hx with hx | hx
          · exact List.mem_of_mem_take hx
          · exact List.mem_of_mem_drop hx
        · rw [List.mem_singleton.1 hx]
    · simp only [if_neg h, if_neg hf, and_true, if_true]
      refine ⟨?_, trivial, trivial, fun x hx => ?_⟩
      · unfold blk
        rw [List.map_append, List.map_singleton]
      · rcases List.mem_append.1 hx with hx | hx
        · exact hc x hx
        · rw [List.mem_singleton.1 hx]
theorem runL_app {rc : Bool} {vic : List Int → Nat → Nat} {f : Int} {X : List Int} {b : Int} : ∀ {i : Nat}, i ≤ X.length → runL rc vic f (X ++ [b]) i = runL rc vic f X i
  | 0, _ => rfl
  | i + 1, h => by
    rw [runL, runL, runL_app (by omega), getD_append_left h]
theorem runN_app {rc : Bool} {vic : List Int → Nat → Nat} {f : Int} {X : List Int} {b : Int} : ∀ {i : Nat}, i ≤ X.length → runN rc vic f (X ++ [b]) i = runN rc vic f X i
  | 0, _ => rfl
  | i + 1, h => by
    rw [runN, runN, runL_app (by omega), runN_app (by omega), getD_append_left h]
/-- the cache has what the frames have -/
def same (cap : Int) (X : List Int) (R : List TR) (rd pt : Int) : Prop := blk R = runL true v0 cap X X.length ∧ rd = (runN true v0 cap X X.length : Nat) ∧ pt = 0 ∧ (∀ x ∈ R, x.2.2 = false) ∧ ∀ x ∈ X, 0 ≤ x ∧ x ≤ 99
theorem same_get {cap : Int} {D : List ByteArray} {R : List TR} {rd pt : Int} {b : Int} {X : List Int} (hs : same cap X R rd pt) (hok : cacheOk cap D R rd pt) (hb : 0 ≤ b ∧ b ≤ 19) (hl : X.length < 1000000) (h1 : 1 ≤ cap) :
    (getO cap D R rd pt b).2.2.2 = true ∧ same cap (X ++ [b]) (getO cap D R rd pt b).1.2.2.1 (getO cap D R rd pt b).1.2.2.2.1 (getO cap D R rd pt b).1.2.2.2.2 := by
  obtain ⟨e1, e2, e3, e4, e5⟩ := hs
  have hle := runN_le (rc := true) (vic := v0) (f := cap) (X := X) X.length
  have hm : mayC rd pt b := ⟨hb, by omega, by omega⟩
  obtain ⟨g1, g2, g3, g4⟩ := get_step X.length hok hm e4 h1
  refine ⟨by unfold getO; rw [if_pos hok, if_pos hm], ?_, ?_, by rw [g3, e3], g4, fun x hx => ?_⟩
  · rw [g1, e1, List.length_append, List.length_singleton, runL, runL_app (Nat.le_refl _), getD_append_end]
  · rw [g2, e1, List.length_append, List.length_singleton, runN, runL_app (Nat.le_refl _), runN_app (Nat.le_refl _), getD_append_end]
    split <;> omega
  · rcases List.mem_append.1 hx with hx | hx
    · exact e5 x hx
    · rw [List.mem_singleton.1 hx]; omega
end Go.Eng.T
