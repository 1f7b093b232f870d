/- THE ENGINE, EngD. -/
import Derived.Test.YtjdppjomhkbljaaEngC
import Derived.Deep.Slices
import Derived.Carry
set_option linter.unusedVariables false
set_option linter.unusedSimpArgs false
set_option linter.unusedSectionVars false
namespace Go.Eng

/-- data that take a fixed number of cells, none of them an address -/
class Cel (α : Type) extends Inhabited α where
  sz : Nat
  enc : α → List AC
  dec : List AC → α
  dec_enc : ∀ x, dec (enc x) = x
  len : ∀ x, (enc x).length = sz
  dec_map : ∀ h cs, dec (cs.map (AC.map h)) = dec cs
  flat : ∀ x, ∀ c ∈ enc x, c.ids = []
  noClo : ∀ x, ∀ c ∈ enc x, ∀ h, c.map h = c
open Cel (enc dec)

def AC.asInt : AC → Int
  | .int _ n => n
  | _ => 0
def AC.asBool : AC → Bool
  | .bool n => n
  | _ => false
def AC.asStr : AC → ByteArray
  | .str n => n
  | _ => .empty
theorem AC.asInt_map (h : RId → RId) (c : AC) : (c.map h).asInt = c.asInt := by cases c <;> rfl
theorem AC.asBool_map (h : RId → RId) (c : AC) : (c.map h).asBool = c.asBool := by cases c <;> rfl
theorem AC.asStr_map (h : RId → RId) (c : AC) : (c.map h).asStr = c.asStr := by cases c <;> rfl
theorem getD_amap (h : RId → RId) (cs : List AC) (j : Nat) : (cs.map (AC.map h)).getD j dfl = (cs.getD j dfl).map h := by
  rw [List.getD_eq_getElem?_getD, List.getD_eq_getElem?_getD, List.getElem?_map]
  cases cs[j]? <;> rfl
/-- the j-th cell -/
def cI (cs : List AC) (j : Nat) : Int := (cs.getD j dfl).asInt
def cB (cs : List AC) (j : Nat) : Bool := (cs.getD j dfl).asBool
def cS (cs : List AC) (j : Nat) : ByteArray := (cs.getD j dfl).asStr
theorem cI_map (h : RId → RId) (cs : List AC) (j : Nat) : cI (cs.map (AC.map h)) j = cI cs j := by rw [cI, getD_amap, AC.asInt_map, cI]
theorem cB_map (h : RId → RId) (cs : List AC) (j : Nat) : cB (cs.map (AC.map h)) j = cB cs j := by rw [cB, getD_amap, AC.asBool_map, cB]
theorem cS_map (h : RId → RId) (cs : List AC) (j : Nat) : cS (cs.map (AC.map h)) j = cS cs j := by rw [cS, getD_amap, AC.asStr_map, cS]

instance : Cel Int := ⟨1, fun n => [.int .i64 n], fun cs => cI cs 0, fun _ => rfl, fun _ => rfl, fun h cs => by simp [cI_map], fun _ c h => by simp at h; subst h; rfl, fun _ c h _ => by simp at h; subst h; rfl⟩
instance : Cel Bool := ⟨1, fun n => [.bool n], fun cs => cB cs 0, fun _ => rfl, fun _ => rfl, fun h cs => by simp [cB_map], fun _ c h => by simp at h; subst h; rfl, fun _ c h _ => by simp at h; subst h; rfl⟩
instance : Cel ByteArray := ⟨1, fun n => [.str n], fun cs => cS cs 0, fun _ => rfl, fun _ => rfl, fun h cs => by simp [cS_map], fun _ c h => by simp at h; subst h; rfl, fun _ c h _ => by simp at h; subst h; rfl⟩
instance : Cel UInt8 := ⟨1, fun n => [.int .u8 n.toNat], fun cs => UInt8.ofNat (cI cs 0).toNat, fun x => by simp [cI, AC.asInt], fun _ => rfl, fun h cs => by simp [cI_map], fun _ c h => by simp at h; subst h; rfl, fun _ c h _ => by simp at h; subst h; rfl⟩
theorem enc_int (n : Int) : enc n = [.int .i64 n] := Eq.trans rfl rfl
theorem enc_bool (n : Bool) : enc n = [.bool n] := Eq.trans rfl rfl
theorem enc_str (n : ByteArray) : enc n = [.str n] := Eq.trans rfl rfl
theorem enc_u8 (n : UInt8) : enc n = [.int .u8 n.toNat] := Eq.trans rfl rfl
theorem sz_int : Cel.sz Int = 1 := Eq.trans rfl rfl
theorem sz_bool : Cel.sz Bool = 1 := Eq.trans rfl rfl
theorem sz_str : Cel.sz ByteArray = 1 := Eq.trans rfl rfl
theorem sz_u8 : Cel.sz UInt8 = 1 := Eq.trans rfl rfl

section
variable {α : Type} [Cel α]
theorem enc_map (h : RId → RId) (x : α) : (enc x).map (AC.map h) = enc x := by
  rw [List.map_congr_left (g := id) fun c hc => Cel.noClo x c hc h]; simp
theorem enc_up (x : α) : (enc x).map AC.up = enc x := by rw [upl_map, enc_map]
theorem enc_dn (n : Nat) (x : α) : dnl n (enc x) = enc x := by rw [dnl_map, enc_map]
theorem enc_ren (τ : List Nat) (x : α) : renl τ (enc x) = enc x := by rw [renl_map, enc_map]
theorem cl_ids {n : Nat} {c : AC} (h : c.ids = []) : c.cl n := by
  cases c with
  | ptr a => simp [AC.ids] at h
  | sl a l cap => simp only [AC.ids] at h; split at h; exact .inl (by assumption); simp at h
  | clo f caps => simp [AC.ids] at h; subst h; intro a ha; simp at ha
  | _ => trivial
theorem cll_all {n : Nat} : ∀ {cs : List AC}, (∀ c ∈ cs, c.cl n) → cll n cs
  | [], _ => trivial
  | c :: cs, h => ⟨h c (by simp), cll_all fun d hd => h d (by simp [hd])⟩
theorem enc_cl (n : Nat) (x : α) : cll n (enc x) = True := eq_true (cll_all fun c hc => cl_ids (Cel.flat x c hc))
theorem map_enc_up (L : List α) : (L.map enc).map (List.map AC.up) = L.map enc := by rw [List.map_map]; exact List.map_congr_left fun x _ => enc_up x
theorem map_enc_dn (n : Nat) (L : List α) : (L.map enc).map (dnl n) = L.map enc := by rw [List.map_map]; exact List.map_congr_left fun x _ => enc_dn n x
theorem map_enc_ren (τ : List Nat) (L : List α) : (L.map enc).map (renl τ) = L.map enc := by rw [List.map_map]; exact List.map_congr_left fun x _ => enc_ren τ x
theorem map_dec_enc (L : List α) : (L.map enc).map (dec : List AC → α) = L := by
  rw [List.map_map]
  exact (List.map_congr_left (g := id) fun x _ => Cel.dec_enc x).trans (List.map_id _)
theorem getD_enc (L : List α) (j : Nat) (h : j < L.length) : (L.map enc).getD j [] = enc (L.getD j default) := by
  simp [List.getD_eq_getElem?_getD, h]
end

/-! ### regions in plain lists: how they turn -/
def mapLL (f : List AC → List AC) : List (Nat × List (List AC)) → List (Nat × List (List AC))
  | [] => []
  | (c, L) :: r => (c, L.map f) :: mapLL f r
theorem mapLL_eq (f : List AC → List AC) : ∀ LL, mapLL f LL = LL.map fun p => (p.1, p.2.map f)
  | [] => rfl
  | (c, L) :: r => by simp [mapLL, mapLL_eq f r]
theorem mapLL_getD (f : List AC → List AC) (hf : f [] = []) (LL : List (Nat × List (List AC))) (i : Nat) : (mapLL f LL).getD i (0, []) = ((LL.getD i (0, [])).1, (LL.getD i (0, [])).2.map f) := by
  rw [mapLL_eq, List.getD_eq_getElem?_getD, List.getD_eq_getElem?_getD, List.getElem?_map]
  cases LL[i]? <;> rfl
theorem getD_map0 (f : List AC → List AC) (hf : f [] = []) (L : List (List AC)) (k : Nat) : (L.map f).getD k [] = f (L.getD k []) := by
  rw [List.getD_eq_getElem?_getD, List.getD_eq_getElem?_getD, List.getElem?_map]
  cases L[k]? with
  | none => exact hf.symm
  | some x => rfl
theorem rows_up {o : Bool} {t s : Nat} {LL : List (Nat × List (List AC))} : (Rg.rows o t s LL).up = .rows o t s (mapLL (List.map AC.up) LL) := by
  unfold Rg.rows
  simp only [Rg.up, mapLL_getD (List.map AC.up) rfl, getD_map0 (List.map AC.up) rfl, List.length_map]
  rw [mapLL_eq, List.length_map]
theorem rows_dn {o : Bool} {t s n : Nat} {LL : List (Nat × List (List AC))} : (Rg.rows o t s LL).dn n = .rows o t s (mapLL (dnl n) LL) := by
  unfold Rg.rows
  simp only [Rg.dn, mapLL_getD (dnl n) rfl, getD_map0 (dnl n) rfl, List.length_map]
  rw [mapLL_eq, List.length_map]
theorem rows_ren {o : Bool} {t s : Nat} {τ : List Nat} {LL : List (Nat × List (List AC))} : (Rg.rows o t s LL).ren τ = .rows o t s (mapLL (renl τ) LL) := by
  unfold Rg.rows
  simp only [Rg.ren, mapLL_getD (renl τ) rfl, getD_map0 (renl τ) rfl, List.length_map]
  rw [mapLL_eq, List.length_map]
def allCl (n : Nat) (L : List (List AC)) : Prop := ∀ cs ∈ L, cll n cs
theorem allCl_nil {n : Nat} : allCl n [] = True := by simp [allCl]
theorem allCl_cons {n : Nat} {c : List AC} {L : List (List AC)} : allCl n (c :: L) = (cll n c ∧ allCl n L) := by simp [allCl]
theorem allCl_append {n : Nat} {L L' : List (List AC)} : allCl n (L ++ L') = (allCl n L ∧ allCl n L') := by
  simp only [allCl, List.mem_append, eq_iff_iff]
  exact ⟨fun h => ⟨fun c hc => h c (.inl hc), fun c hc => h c (.inr hc)⟩, fun h c hc => hc.elim (h.1 c) (h.2 c)⟩
theorem allCl_enc {α : Type} [Cel α] {n : Nat} {L : List α} : allCl n (L.map enc) = True := by
  simp [allCl, enc_cl]
theorem allCl_rep {n m : Nat} {c : List AC} : allCl n (List.replicate m c) = (m = 0 ∨ cll n c) := by
  rw [eq_iff_iff]
  unfold allCl
  constructor
  · intro h
    rcases Nat.eq_zero_or_pos m with e | e
    · exact .inl e
    · exact .inr (h c (List.mem_replicate.2 ⟨by omega, rfl⟩))
  · intro h cs hcs
    obtain ⟨h1, rfl⟩ := List.mem_replicate.1 hcs
    exact h.resolve_left h1
theorem allCl_set {n i : Nat} {L : List (List AC)} {c : List AC} (h1 : allCl n L) (h2 : cll n c) : allCl n (L.set i c) := fun d hd =>
  (List.mem_or_eq_of_mem_set hd).elim (h1 d) fun e => e ▸ h2
theorem allCl_take {n i : Nat} {L : List (List AC)} (h1 : allCl n L) : allCl n (L.take i) := fun d hd => h1 d (List.mem_of_mem_take hd)
theorem allCl_drop {n i : Nat} {L : List (List AC)} (h1 : allCl n L) : allCl n (L.drop i) := fun d hd => h1 d (List.mem_of_mem_drop hd)
theorem allCl_setE {α : Type} [Cel α] {n i : Nat} {L : List α} {c : List AC} : allCl n ((L.map enc).set i c) = (i < L.length → cll n c) := by
  rw [eq_iff_iff]
  constructor
  · intro h hi
    exact h c (List.mem_iff_getElem.2 ⟨i, by simpa using hi, by simp⟩)
  · intro h d hd
    obtain ⟨j, hj, e⟩ := List.mem_iff_getElem.1 hd
    rw [List.getElem_set] at e
    split at e
    · subst e; exact h (by simp at hj; omega)
    · subst e
      rw [List.getElem_map, enc_cl]; trivial
def rowsCl (n : Nat) : List (Nat × List (List AC)) → Prop
  | [] => True
  | (_, L) :: r => allCl n L ∧ rowsCl n r
theorem rowsCl_of {n : Nat} : ∀ {LL : List (Nat × List (List AC))}, rowsCl n LL ↔ ∀ i, i < LL.length → allCl n (LL.getD i (0, [])).2
  | [] => by simp [rowsCl]
  | (c, L) :: r => by
    simp only [rowsCl, rowsCl_of (LL := r), List.length_cons]
    constructor
    · rintro ⟨h1, h2⟩ i hi
      cases i with
      | zero => exact h1
      | succ i => exact h2 i (by omega)
    · intro h
      exact ⟨h 0 (by omega), fun i hi => h (i + 1) (by omega)⟩
theorem rows_cl {o : Bool} {t s n : Nat} {LL : List (Nat × List (List AC))} : (Rg.rows o t s LL).cl n = rowsCl n LL := by
  rw [eq_iff_iff, rowsCl_of]
  unfold Rg.rows
  simp only [Rg.cl]
  refine forall_congr' fun i => forall_congr' fun hi => ?_
  constructor
  · intro h cs hcs
    obtain ⟨k, hk, e⟩ := List.getElem_of_mem hcs
    have := h k hk
    rwa [List.getD_eq_getElem?_getD, List.getElem?_eq_getElem hk, Option.getD_some, e] at this
  · intro h k hk
    rw [List.getD_eq_getElem?_getD, List.getElem?_eq_getElem hk, Option.getD_some]
    exact h _ (List.getElem_mem hk)
def rowsLe : List (Nat × List (List AC)) → List (Nat × List (List AC)) → Prop
  | [], _ => True
  | (c, L) :: r, (c', L') :: r' => (c = c' ∧ L <+: L') ∧ rowsLe r r'
  | _ :: _, [] => False
theorem prefix_iff {L L' : List (List AC)} : L <+: L' ↔ L.length ≤ L'.length ∧ ∀ k, k < L.length → L.getD k [] = L'.getD k [] := by
  constructor
  · rintro ⟨r, rfl⟩
    refine ⟨by simp, fun k hk => ?_⟩
    rw [List.getD_eq_getElem?_getD, List.getD_eq_getElem?_getD, List.getElem?_append_left hk]
  · rintro ⟨h1, h2⟩
    rw [List.prefix_iff_eq_take]
    refine List.ext_getElem (by simp; omega) fun k hk hk' => ?_
    have h3 := h2 k hk
    rw [List.getD_eq_getElem?_getD, List.getElem?_eq_getElem hk, Option.getD_some, List.getD_eq_getElem?_getD, List.getElem?_eq_getElem (by omega), Option.getD_some] at h3
    rw [h3, List.getElem_take]
theorem rowsLe_iff : ∀ {LL LL' : List (Nat × List (List AC))}, rowsLe LL LL' ↔ LL.length ≤ LL'.length ∧ ∀ i, i < LL.length → (LL.getD i (0, [])).1 = (LL'.getD i (0, [])).1 ∧ (LL.getD i (0, [])).2 <+: (LL'.getD i (0, [])).2
  | [], _ => by simp [rowsLe]
  | _ :: _, [] => by simp [rowsLe]
  | (c, L) :: r, (c', L') :: r' => by
    simp only [rowsLe, rowsLe_iff (LL := r), List.length_cons]
    constructor
    · rintro ⟨h1, h2, h3⟩
      refine ⟨by omega, fun i hi => ?_⟩
      cases i with
      | zero => exact h1
      | succ i => exact h3 i (by omega)
    · rintro ⟨h2, h3⟩
      exact ⟨h3 0 (by omega), by omega, fun i hi => h3 (i + 1) (by omega)⟩
theorem RgLe_rows {o o' : Bool} {t t' s s' : Nat} {LL LL' : List (Nat × List (List AC))} : RgLe (.rows o t s LL) (.rows o' t' s' LL') = ((o = true → o' = true) ∧ t = t' ∧ s = s' ∧ rowsLe LL LL') := by
  rw [eq_iff_iff, rowsLe_iff]
  unfold Rg.rows
  simp only [RgLe]
  refine and_congr_right fun _ => and_congr_right fun _ => and_congr_right fun _ => and_congr_right fun _ => forall_congr' fun i => forall_congr' fun hi => and_congr_right fun _ => ?_
  rw [prefix_iff]
theorem prefix_self {L : List (List AC)} : (L <+: L) = True := eq_true (List.prefix_refl L)

theorem rgK_rows {o t s LL Kb Ka Kn} : rgK (some (.rows o t s LL)) Kb Ka Kn = Ka o t s LL.length (fun i => (LL.getD i (0, [])).1) (fun i => (LL.getD i (0, [])).2.length) (fun i k => (LL.getD i (0, [])).2.getD k []) := propext Iff.rfl
theorem atG_rows {a : AA} {o t s LL} : atG a (some (.rows o t s LL)) = fun k => (LL.getD a.i (0, [])).2.getD (a.k + k) [] := Eq.trans rfl rfl
theorem atG_none {a : AA} : atG a none = fun _ => [] := Eq.trans rfl rfl
theorem atG_arr {a : AA} {o t s n c l g} : atG a (some (.arr o t s n c l g)) = fun k => g a.i (a.k + k) := Eq.trans rfl rfl

theorem win_zero {f : Nat → List AC} : win f 0 = [] := Eq.trans rfl rfl
theorem win_whole {B : List (List AC)} {n : Nat} (h : B.length = n) : win (fun k => B.getD k []) n = B := by
  subst h
  unfold win
  refine List.ext_getElem (by simp) fun k hk hk' => ?_
  simp [List.getD_eq_getElem?_getD, hk']
theorem win_drop {B : List (List AC)} {j n : Nat} (h : j + n ≤ B.length) : win (fun k => B.getD (j + k) []) n = (B.drop j).take n := by
  unfold win
  refine List.ext_getElem (by simp; omega) fun k hk hk' => ?_
  have : k < n := by simpa using hk
  simp [List.getD_eq_getElem?_getD, show j + k < B.length by omega]
/-- elements put from j on, perhaps beyond the end -/
def putAt (L : List (List AC)) (j : Nat) (N : List (List AC)) : List (List AC) := win (fun k => if j ≤ k ∧ k < j + N.length then N.getD (k - j) [] else L.getD k []) (max L.length (j + N.length))
theorem putAt_in {L N : List (List AC)} {j : Nat} (h : j ≤ L.length) : putAt L j N = L.take j ++ N ++ L.drop (j + N.length) := by
  unfold putAt
  refine List.ext_getElem (by simp [win_length]; omega) fun k hk hk' => ?_
  have hk : k < max L.length (j + N.length) := by simpa [win_length] using hk
  have e : ∀ l : List (List AC), ∀ h : k < l.length, l[k] = l.getD k [] := fun l h => by simp [List.getD_eq_getElem?_getD, h]
  rw [e, e, win_get _ hk, List.getD_eq_getElem?_getD (l := _ ++ _)]
  by_cases h1 : k < j
  · rw [if_neg (by omega), List.getElem?_append_left (by simp; omega), List.getElem?_append_left (by simp; omega), List.getElem?_take, if_pos h1, ← List.getD_eq_getElem?_getD]
  · by_cases h2 : k < j + N.length
    · rw [if_pos (by omega), List.getElem?_append_left (by simp; omega), List.getElem?_append_right (by simp; omega), ← List.getD_eq_getElem?_getD]
      congr 1; simp; omega
    · rw [if_neg (by omega), List.getElem?_append_right (by simp; omega), List.getElem?_drop, ← List.getD_eq_getElem?_getD]
      congr 1; simp; omega
theorem putAt_end {L N : List (List AC)} {j : Nat} (h : L.length = j) : putAt L j N = L ++ N := by
  subst h
  rw [putAt_in (Nat.le_refl _), List.take_length, List.drop_eq_nil_of_le (by omega), List.append_nil]

theorem LL_self (LL : List (Nat × List (List AC))) (i : Nat) : ((LL.getD i (0, [])).1, win (fun k => (LL.getD i (0, [])).2.getD k []) (LL.getD i (0, [])).2.length) = LL.getD i (0, []) := by
  rw [win_whole rfl]
theorem tidy_store {o : Bool} {t s : Nat} {LL : List (Nat × List (List AC))} {i0 k0 : Nat} {C : List AC} :
    tidy (.arr o t s LL.length (fun i => (LL.getD i (0, [])).1) (fun i => (LL.getD i (0, [])).2.length) fun i k => if i = i0 ∧ k = k0 then C else (LL.getD i (0, [])).2.getD k []) =
    .rows o t s (LL.set i0 ((LL.getD i0 (0, [])).1, (LL.getD i0 (0, [])).2.set k0 C)) := by
  show Rg.rows _ _ _ _ = Rg.rows _ _ _ _
  refine congrArg (Rg.rows o t s) (List.ext_getElem (by simp) fun i hi hi' => ?_)
  have hi2 : i < LL.length := by simpa using hi
  rw [List.getElem_map, List.getElem_range, List.getElem_set]
  by_cases e : i0 = i
  · subst e
    rw [if_pos rfl]
    congr 1
    refine List.ext_getElem (by simp [win_length]) fun k hk hk' => ?_
    have hk2 : k < (LL.getD i0 (0, [])).2.length := by simpa [win_length] using hk
    rw [List.getElem_set]
    unfold win
    simp only [List.getElem_map, List.getElem_range, true_and]
    by_cases e2 : k0 = k
    · rw [if_pos e2.symm, if_pos e2]
    · rw [if_neg (Ne.symm e2), if_neg e2, List.getD_eq_getElem?_getD, List.getElem?_eq_getElem hk2, Option.getD_some]
  · rw [if_neg e]
    have : ∀ k, (i = i0 ∧ k = k0) = False := fun k => by simp [Ne.symm e]
    simp only [this, if_false]
    rw [LL_self, List.getD_eq_getElem?_getD, List.getElem?_eq_getElem hi2, Option.getD_some]
theorem tidy_app {o : Bool} {t s : Nat} {LL : List (Nat × List (List AC))} {i0 k0 n m : Nat} {news : Nat → List AC} :
    tidy (.arr o t s LL.length (fun i => (LL.getD i (0, [])).1) (fun i => if i = i0 then max (LL.getD i (0, [])).2.length (k0 + n + m) else (LL.getD i (0, [])).2.length)
      fun i k => if i = i0 ∧ k0 + n ≤ k ∧ k < k0 + n + m then nth news (k - (k0 + n)) else (LL.getD i (0, [])).2.getD k []) =
    .rows o t s (LL.set i0 ((LL.getD i0 (0, [])).1, putAt (LL.getD i0 (0, [])).2 (k0 + n) (win news m))) := by
  show Rg.rows _ _ _ _ = Rg.rows _ _ _ _
  refine congrArg (Rg.rows o t s) (List.ext_getElem (by simp) fun i hi hi' => ?_)
  have hi2 : i < LL.length := by simpa using hi
  rw [List.getElem_map, List.getElem_range, List.getElem_set]
  by_cases e : i0 = i
  · subst e
    rw [if_pos rfl]
    simp only [if_true]
    congr 1
    unfold putAt
    rw [win_length]
    unfold win
    refine List.map_congr_left fun k hk => ?_
    simp only [true_and]
    split
    · have := win_get news (n := m) (k := k - (k0 + n)) (by omega)
      unfold win at this
      exact this.symm
    · rfl
  · rw [if_neg e]
    simp only [if_neg (Ne.symm e)]
    have : ∀ k, (i = i0 ∧ k0 + n ≤ k ∧ k < k0 + n + m) = False := fun k => by simp [Ne.symm e]
    simp only [this, if_false]
    rw [LL_self, List.getD_eq_getElem?_getD, List.getElem?_eq_getElem hi2, Option.getD_some]

/-! ### rows of data -/
section
variable (α : Type) [Cel α]
/-- a region with one row of data -/
def rowG {α : Type} [Cel α] (own : Bool) (ty : TypeId) (c : Nat) (L : List α) : Rg := .rows own ty (Cel.sz α) [(c, L.map enc)]
def allEnc (W : List (List AC)) : Prop := ∀ cs ∈ W, enc (dec cs : α) = cs
def RowAt (a : AA) (n : Nat) : Option Rg → Prop
  | some (.arr _ _ s cnt _ len get) => s = Cel.sz α ∧ a.f = 0 ∧ a.i < cnt ∧ a.k + n ≤ len a.i ∧ allEnc α (win (fun k => get a.i (a.k + k)) n)
  | _ => False
/-- n elements of α lie at a; the region of a is o -/
def RowOk (a : AA) (n : Nat) (o : Option Rg) : Prop := n ≤ 4294967296 ∧ (n = 0 ∨ RowAt α a n o)
/-- the n elements at a -/
def row (a : AA) (n : Nat) (o : Option Rg) : List α := (win (atG a o) n).map dec
end
section
variable {α : Type} [Cel α]
theorem row_length (a : AA) (n : Nat) (o : Option Rg) : (row α a n o).length = n := by simp [row, win_length]
theorem allEnc_enc {L : List α} : allEnc α (L.map enc) = True := by
  simp [allEnc, Cel.dec_enc]
theorem allEnc_nil : allEnc α [] = True := by simp [allEnc]
theorem RowAt_arr {a : AA} {n : Nat} {own ty s cnt cap len get} : RowAt α a n (some (.arr own ty s cnt cap len get)) = (s = Cel.sz α ∧ a.f = 0 ∧ a.i < cnt ∧ a.k + n ≤ len a.i ∧ allEnc α (win (fun k => get a.i (a.k + k)) n)) := Eq.trans rfl rfl
theorem RowAt_rows {a : AA} {n : Nat} {own ty s LL} : RowAt α a n (some (.rows own ty s LL)) = (s = Cel.sz α ∧ a.f = 0 ∧ a.i < LL.length ∧ a.k + n ≤ (LL.getD a.i (0, [])).2.length ∧ allEnc α (win (fun k => (LL.getD a.i (0, [])).2.getD (a.k + k) []) n)) := Eq.trans rfl rfl
theorem row_zero {a : AA} {o : Option Rg} : row α a 0 o = [] := Eq.trans rfl rfl
theorem row_rows {a : AA} {n : Nat} {own ty s LL} : row α a n (some (.rows own ty s LL)) = (win (fun k => (LL.getD a.i (0, [])).2.getD (a.k + k) []) n).map dec := Eq.trans rfl rfl
theorem RowOk_def {a : AA} {n : Nat} {o : Option Rg} : RowOk α a n o = (n ≤ 4294967296 ∧ (n = 0 ∨ RowAt α a n o)) := Eq.trans rfl rfl
theorem RowOk.small {a : AA} {n : Nat} {o : Option Rg} (h : RowOk α a n o) : n ≤ 4294967296 := h.1

/-- what the walk wants -/
theorem RowOk.at {a : AA} {n : Nat} {o : Option Rg} (h : RowOk α a n o) (h0 : 0 < n) : ∃ own ty cnt cap len get, o = some (.arr own ty (Cel.sz α) cnt cap len get) ∧ a.f = 0 ∧ a.i < cnt ∧ a.k + n ≤ len a.i ∧ ∀ j, j < n → get a.i (a.k + j) = enc ((row α a n o).getD j default) := by
  have h := h.2.resolve_left (by omega)
  unfold RowAt at h
  split at h
  · obtain ⟨rfl, h1, h2, h3, h4⟩ := h
    refine ⟨_, _, _, _, _, _, rfl, h1, h2, h3, fun j hj => ?_⟩
    unfold row
    rw [List.getD_eq_getElem?_getD, List.getElem?_map, win, List.getElem?_map, List.getElem?_range hj]
    exact (h4 _ (List.mem_map.2 ⟨j, List.mem_range.2 hj, rfl⟩)).symm
  · exact h.elim

theorem upc {c : AC} (h : ∀ k, (c.up).map k = c.up) : c.up = c := by
  cases c with
  | ptr a => have := h fun _ => .nil; simp [AC.up, AC.map, AA.map, AA.up] at this
  | sl a l cap => have := h fun _ => .nil; simp [AC.up, AC.map, AA.map, AA.up] at this
  | clo f caps =>
    have := h fun _ => .nil
    cases caps with
    | nil => rfl
    | cons x r => simp [AC.up, AC.map, AA.map, AA.up] at this
  | _ => rfl
theorem up_enc {cs : List AC} {x : α} (h : enc x = cs.map AC.up) : cs.map AC.up = cs := by
  have : ∀ c ∈ cs, AC.up c = c := by
    intro c hc
    refine upc fun k => Cel.noClo x _ ?_ k
    rw [h]; exact List.mem_map.2 ⟨c, hc, rfl⟩
  rw [List.map_congr_left (g := id) this, List.map_id]
theorem win_map (f : Nat → List AC) (g : List AC → List AC) (n : Nat) : win (fun k => g (f k)) n = (win f n).map g := by simp [win, Function.comp_def]
theorem allEnc_up {W : List (List AC)} : allEnc α (W.map (List.map AC.up)) = allEnc α W := by
  rw [eq_iff_iff]
  unfold allEnc
  constructor
  · intro h cs hcs
    have h1 := h _ (List.mem_map.2 ⟨cs, hcs, rfl⟩)
    have h2 := up_enc h1
    rwa [h2] at h1
  · intro h cs hcs
    obtain ⟨ds, hds, rfl⟩ := List.mem_map.1 hcs
    have h1 := h ds hds
    rw [← h1, enc_up, Cel.dec_enc]
theorem row_up {a : AA} {n : Nat} {o : Option Rg} : row α a.up n (o.map Rg.up) = row α a n o := by
  cases o with
  | none => rfl
  | some g => cases g with
    | box t cs => rfl
    | arr o t s m c l g =>
      simp only [row, Option.map_some, Rg.up, atG, AA.up]
      rw [win_map (fun k => g a.i (a.k + k)) (List.map AC.up), List.map_map]
      refine List.map_congr_left fun cs _ => ?_
      simp only [Function.comp, upl_map, Cel.dec_map]
theorem RowAt_up {a : AA} {n : Nat} {o : Option Rg} : RowAt α a.up n (o.map Rg.up) = RowAt α a n o := by
  cases o with
  | none => rfl
  | some g => cases g with
    | box t cs => rfl
    | arr o t s m c l g =>
      simp only [Option.map_some, Rg.up, RowAt_arr, AA.up]
      rw [win_map (fun k => g a.i (a.k + k)) (List.map AC.up), allEnc_up]
theorem RowOk_up {a : AA} {n : Nat} {o : Option Rg} : RowOk α a.up n (o.map Rg.up) = RowOk α a n o := by rw [RowOk_def, RowOk_def, RowAt_up]
end
theorem AA.up_r {a : AA} : a.up.r = .out a.r := Eq.trans rfl rfl
theorem AA.up_i {a : AA} : a.up.i = a.i := Eq.trans rfl rfl
theorem AA.up_k {a : AA} : a.up.k = a.k := Eq.trans rfl rfl
theorem AA.up_f {a : AA} : a.up.f = a.f := Eq.trans rfl rfl
section
variable {α : Type} [Cel α]
theorem RowOk_rows {a : AA} {n : Nat} {own ty s LL} : RowOk α a n (some (.rows own ty s LL)) = (n ≤ 4294967296 ∧ (n = 0 ∨ (s = Cel.sz α ∧ a.f = 0 ∧ a.i < LL.length ∧ a.k + n ≤ (LL.getD a.i (0, [])).2.length ∧ allEnc α (win (fun k => (LL.getD a.i (0, [])).2.getD (a.k + k) []) n)))) := Eq.trans rfl rfl
theorem RowOk_none {a : AA} {n : Nat} : RowOk α a n none = (n = 0) := by
  rw [RowOk_def]
  simp [RowAt]
  omega
end

/-! ### a contract that looks at a region -/
def specG (o : Option Rg) (K : Bool → TypeId → Nat → Nat → (Nat → Nat) → (Nat → Nat) → (Nat → Nat → List AC) → Spec) : Spec :=
  match o with
  | some (.arr o t s n c l g) => K o t s n c l g
  | _ => .bad
theorem specG_rows {o t s LL K} : specG (some (.rows o t s LL)) K = K o t s LL.length (fun i => (LL.getD i (0, [])).1) (fun i => (LL.getD i (0, [])).2.length) (fun i k => (LL.getD i (0, [])).2.getD k []) := Eq.trans rfl rfl
theorem specG_none {K} : specG none K = .bad := Eq.trans rfl rfl
theorem specG_arr {o t s n c l g K} : specG (some (.arr o t s n c l g)) K = K o t s n c l g := Eq.trans rfl rfl

/-! ### lists that are filled -/
section
variable {α : Type}
def fill (X : List α) (i : Nat) (d : α) : List α := X.take i ++ List.replicate (X.length - i) d
theorem fill_zero (X : List α) (d : α) : fill X 0 d = List.replicate X.length d := by simp [fill]
theorem fill_length (X : List α) (i : Nat) (d : α) : (fill X i d).length = X.length := by simp [fill]; omega
theorem fill_all (X : List α) (d : α) : fill X X.length d = X := by simp [fill]
theorem fill_set (X : List α) (i : Nat) (d e : α) (h : i < X.length) : (fill X i d).set i (X.getD i e) = fill X (i + 1) d := by
  unfold fill
  rw [List.set_append_right _ _ (by simp; omega), show X.length - i = (X.length - (i + 1)) + 1 by omega, List.replicate_succ]
  simp only [List.length_take, Nat.min_eq_left (Nat.le_of_lt h), Nat.sub_self, List.set_cons_zero]
  rw [List.take_add_one, List.getD_eq_getElem?_getD, List.getElem?_eq_getElem h, List.append_assoc]
  simp
theorem take_step (X : List α) (i : Nat) (e : α) (h : i < X.length) : X.take (i + 1) = X.take i ++ [X.getD i e] := by
  rw [List.take_add_one, List.getD_eq_getElem?_getD, List.getElem?_eq_getElem h]; simp
theorem getD_lt (X : List α) (i : Nat) (e e' : α) (h : i < X.length) : X.getD i e = X.getD i e' := by
  rw [List.getD_eq_getElem?_getD, List.getD_eq_getElem?_getD, List.getElem?_eq_getElem h]; rfl
end
/-! ### for simp: one rule a form -/
theorem RgLe_box {t t' cs cs'} : RgLe (.box t cs) (.box t' cs') = (t = t' ∧ eqvl cs' cs) := Eq.trans rfl rfl
theorem ren_box {t cs τ} : (Rg.box t cs).ren τ = .box t (renl τ cs) := Eq.trans rfl rfl
theorem dn_box {t cs n} : (Rg.box t cs).dn n = .box t (dnl n cs) := Eq.trans rfl rfl
theorem cl_box {t cs n} : (Rg.box t cs).cl n = cll n cs := Eq.trans rfl rfl
theorem up_box {t cs} : (Rg.box t cs).up = .box t (cs.map AC.up) := Eq.trans rfl rfl
theorem up_arr {o t s n c l g} : (Rg.arr o t s n c l g).up = .arr o t s n c l fun i k => (g i k).map AC.up := Eq.trans rfl rfl
theorem AA.ren_mk {r i k f τ} : (AA.mk r i k f).ren τ = ⟨r.ren τ, i, k, f⟩ := Eq.trans rfl rfl
theorem AA.ren_up {a : AA} {τ} : a.up.ren τ = a.up := Eq.trans rfl rfl
theorem AA.dn_mk {r i k f n} : (AA.mk r i k f).dn n = ⟨r.dn n, i, k, f⟩ := Eq.trans rfl rfl
theorem AA.dn_up {a : AA} {n} : a.up.dn n = a := Eq.trans rfl rfl
theorem ren_out {x : RId} {τ} : (RId.out x).ren τ = .out x := Eq.trans rfl rfl
theorem ren_nil {τ} : RId.nil.ren τ = .nil := Eq.trans rfl rfl
theorem ren_loc {j τ} : (RId.loc j).ren τ = .loc (τ.getD j 0) := Eq.trans rfl rfl
theorem dn_out {x : RId} {n} : (RId.out x).dn n = x := Eq.trans rfl rfl
theorem dn_nil {n} : RId.nil.dn n = .nil := Eq.trans rfl rfl
theorem dn_loc {j n} : (RId.loc j).dn n = .loc (n + j) := Eq.trans rfl rfl
theorem cl_out {x : RId} {n} : (RId.out x).cl n = True := Eq.trans rfl rfl
theorem cl_nil {n} : RId.nil.cl n = True := Eq.trans rfl rfl
theorem cl_loc {j n} : (RId.loc j).cl n = (j < n) := Eq.trans rfl rfl

section
variable {α : Type} [Cel α]
/-- a row that came in: its elements -/
theorem RowOk.x {a : AA} {n : Nat} {o : Option Rg} (h : RowOk α a n o) : n ≤ 4294967296 ∧ ∃ X, row α a n o = X ∧ X.length = n ∧
    (0 < n → ∃ own ty cnt cap len get, o = some (.arr own ty (Cel.sz α) cnt cap len get) ∧ a.f = 0 ∧ a.i < cnt ∧ a.k + n ≤ len a.i ∧ ∀ j, j < n → get a.i (a.k + j) = enc (X.getD j default)) :=
  ⟨h.1, _, rfl, row_length _ _ _, h.at⟩
end
end Go.Eng

namespace Go.Eng
open Cel (enc dec)

/-- member i0 of region j and member 0 of region j2 change their names -/
def sw (j i0 j2 : Nat) (r : RId) (i : Nat) : RId × Nat :=
  match r with
  | .loc q => if q = j ∧ i = i0 then (.loc j2, 0) else if q = j2 ∧ i = 0 then (.loc j, i0) else (.loc q, i)
  | r => (r, i)
def swA (j n j2 : Nat) (a : AA) : AA := { a with r := (sw j n j2 a.r a.i).1, i := (sw j n j2 a.r a.i).2 }
def AC.sw (j n j2 : Nat) : AC → AC
  | .ptr a => .ptr (swA j n j2 a)
  | .sl a l c => .sl (swA j n j2 a) l c
  | .clo f caps => .clo f (caps.map (swA j n j2))
  | x => x
def swl (j n j2 : Nat) : List AC → List AC
  | [] => []
  | c :: cs => c.sw j n j2 :: swl j n j2 cs
def swt (j n j2 : Nat) : List (Bool × List AC) → List (Bool × List AC)
  | [] => []
  | (b, cs) :: r => (b, swl j n j2 cs) :: swt j n j2 r
def AV.sw (j n j2 : Nat) : AV → AV
  | .c x => .c (x.sw j n j2)
  | .agg xs => .agg (swl j n j2 xs)
  | .tup xs => .tup (swt j n j2 xs)
def Sl.sw (j n j2 : Nat) : Sl → Sl
  | .un => .un
  | .v g a => .v g (a.sw j n j2)
def swT (j n j2 : Nat) : List Sl → List Sl
  | [] => []
  | s :: r => s.sw j n j2 :: swT j n j2 r
def Rg.sw (j n j2 : Nat) : Rg → Rg
  | .box t cs => .box t (swl j n j2 cs)
  | .arr o t s m c l g => .arr o t s m c l fun i k => swl j n j2 (g i k)
def swR (j n j2 : Nat) : List Rg → List Rg
  | [] => []
  | g :: r => g.sw j n j2 :: swR j n j2 r
def swO (j n j2 : Nat) : List (RId × Rg) → List (RId × Rg)
  | [] => []
  | (x, g) :: r => (x, g.sw j n j2) :: swO j n j2 r
def St.swp (S : St) (j i0 j2 : Nat) (o : Bool) (t s : Nat) (LL : List (Nat × List (List AC))) (c : Nat) (X : List (List AC)) : St :=
  ⟨swT j i0 j2 S.tmps, S.base, swO j i0 j2 S.ov, setG (setG (swR j i0 j2 S.loc) j (.rows o t s (mapLL (swl j i0 j2) (LL.set i0 (c, X))))) j2 (.rows o t s (mapLL (swl j i0 j2) [LL.getD i0 (0, [])]))⟩

section
variable {j n j2 : Nat} (hne : j ≠ j2)
include hne
theorem sw_sw (r : RId) (i : Nat) : sw j n j2 (sw j n j2 r i).1 (sw j n j2 r i).2 = (r, i) := by
  cases r with
  | loc q =>
    by_cases h1 : q = j ∧ i = n
    · obtain ⟨rfl, rfl⟩ := h1
      simp [sw, Ne.symm hne]
    · by_cases h2 : q = j2 ∧ i = 0
      · obtain ⟨rfl, rfl⟩ := h2
        simp [sw, h1]
      · simp [sw, h1, h2]
  | _ => rfl
end
theorem swl_map (j n j2 : Nat) : ∀ cs : List AC, swl j n j2 cs = cs.map (AC.sw j n j2)
  | [] => rfl
  | c :: cs => by simp [swl, swl_map j n j2 cs]
theorem swt_map (j n j2 : Nat) : ∀ cs : List (Bool × List AC), swt j n j2 cs = cs.map fun p => (p.1, swl j n j2 p.2)
  | [] => rfl
  | (b, c) :: cs => by simp [swt, swt_map j n j2 cs]
theorem swT_get (j n j2 : Nat) : ∀ (l : List Sl) (t : Nat), (swT j n j2 l)[t]? = (l[t]?).map (Sl.sw j n j2)
  | [], t => by simp [swT]
  | s :: r, 0 => by simp [swT]
  | s :: r, t + 1 => by simp [swT, swT_get j n j2 r t]
theorem swT_length (j n j2 : Nat) : ∀ (l : List Sl), (swT j n j2 l).length = l.length
  | [] => rfl
  | s :: r => by simp [swT, swT_length j n j2 r]
theorem swR_get (j n j2 : Nat) : ∀ (l : List Rg) (t : Nat), (swR j n j2 l)[t]? = (l[t]?).map (Rg.sw j n j2)
  | [], t => by simp [swR]
  | s :: r, 0 => by simp [swR]
  | s :: r, t + 1 => by simp [swR, swR_get j n j2 r t]
theorem swR_length (j n j2 : Nat) : ∀ (l : List Rg), (swR j n j2 l).length = l.length
  | [] => rfl
  | s :: r => by simp [swR, swR_length j n j2 r]
theorem swO_find (j n j2 : Nat) : ∀ (l : List (RId × Rg)) (x : RId), findO (swO j n j2 l) x = (findO l x).map (Rg.sw j n j2)
  | [], x => rfl
  | (y, g) :: r, x => by
    simp only [swO, findO]
    split
    · rfl
    · exact swO_find j n j2 r x

theorem setG_length' : ∀ (l : List Rg) (n : Nat) (g : Rg), (setG l n g).length = l.length
  | [], _, _ => rfl
  | _ :: _, 0, _ => rfl
  | _ :: r, n + 1, g => by simp [setG, setG_length' r n g]

def Env.sw (ρ : Env) (j n j2 : Nat) : Env := ⟨fun x i => ρ.blk (Eng.sw j n j2 x i).1 (Eng.sw j n j2 x i).2, fun x i => ρ.base (Eng.sw j n j2 x i).1 (Eng.sw j n j2 x i).2, ρ.sz⟩

section
variable {j n j2 : Nat} (hne : j ≠ j2) {ρ : Env} (hs : ρ.sz (.loc j) = ρ.sz (.loc j2))
include hne hs
omit hne in
theorem sw_sz (r : RId) (i : Nat) : ρ.sz (sw j n j2 r i).1 = ρ.sz r := by
  cases r with
  | loc q =>
    simp only [sw]
    split
    · rename_i h; obtain ⟨rfl, rfl⟩ := h; exact hs.symm
    · split
      · rename_i h; obtain ⟨rfl, rfl⟩ := h; exact hs
      · rfl
  | _ => rfl
theorem conc_sw (a : AA) : (swA j n j2 a).conc (ρ.sw j n j2) = a.conc ρ := by
  have h := sw_sw (n := n) hne a.r a.i
  simp only [AA.conc, swA, Env.sw, h, sw_sz hs]
theorem AC.Is_sw {c : AC} {v : Value} : (c.sw j n j2).Is (ρ.sw j n j2) v ↔ c.Is ρ v := by
  cases c with
  | ptr a => simp only [AC.sw, AC.Is, conc_sw hne hs]
  | sl a l cap => simp only [AC.sw, AC.Is, conc_sw hne hs]
  | clo f caps =>
    simp only [AC.sw, AC.Is, List.map_map]
    have : ((fun a : AA => Value.pointer (some (a.conc (ρ.sw j n j2)))) ∘ swA j n j2) = fun a => Value.pointer (some (a.conc ρ)) := by
      funext a; simp only [Function.comp, conc_sw hne hs]
    rw [this]
  | _ => exact Iff.rfl
theorem Cells_sw : ∀ {cs : List AC} {vs : List Value}, Cells (ρ.sw j n j2) (swl j n j2 cs) vs ↔ Cells ρ cs vs
  | [], [] => Iff.rfl
  | _ :: _, _ :: _ => and_congr (AC.Is_sw hne hs) Cells_sw
  | [], _ :: _ => Iff.rfl
  | _ :: _, [] => Iff.rfl
theorem AV.Is_sw {a : AV} {v : Value} (h : a.Is ρ v) : (a.sw j n j2).Is (ρ.sw j n j2) v := by
  cases a with
  | c x => exact (AC.Is_sw hne hs).2 h
  | agg xs => obtain ⟨vs, e, q⟩ := h; exact ⟨vs, e, (Cells_sw hne hs).2 q⟩
  | tup xs =>
    obtain ⟨vs, e, hl, q⟩ := h
    refine ⟨vs, e, by rw [swt_map, List.length_map]; exact hl, fun p b cs u h1 h2 => ?_⟩
    rw [swt_map, List.getElem?_map] at h1
    cases hx : xs[p]? with
    | none => simp [hx] at h1
    | some y =>
      obtain ⟨b0, cs0⟩ := y
      simp [hx] at h1
      obtain ⟨rfl, rfl⟩ := h1
      have := q p b0 cs0 u hx h2
      cases b0
      · simp only [Bool.false_eq_true, if_false] at this ⊢
        obtain ⟨c, rfl, hc⟩ := this
        exact ⟨c.sw j n j2, rfl, (AC.Is_sw hne hs).2 hc⟩
      · simp only [if_true] at this ⊢
        obtain ⟨us, e5, hc⟩ := this
        exact ⟨us, e5, (Cells_sw hne hs).2 hc⟩
end

/-- a region's member in other names -/
def MemAt (ρ : Env) (x : RId) (i : Nat) (w : World) (own : Bool) (ty sz cap len : Nat) (get : Nat → List AC) : Prop :=
  len ≤ cap ∧ (∀ k, k < len → (get k).length = sz ∧ ∀ f c, (get k)[f]? = some c → ∃ v, w.cell? ⟨ρ.blk x i, ρ.base x i + (k * sz + f), none⟩ = some v ∧ c.Is ρ v) ∧
  (own = true → 0 < cap → ρ.base x i = 0 ∧ ∃ cur, w.heap[ρ.blk x i]? = some (.cells cur ty (0, 0)) ∧ cur.size = cap * sz)
theorem RegOk_arr {ρ : Env} {x : RId} {w : World} {own ty sz cnt cap len get} : RegOk ρ x w (.arr own ty sz cnt cap len get) ↔ ρ.sz x = sz ∧ ∀ i, i < cnt → MemAt ρ x i w own ty sz (cap i) (len i) (get i) := Iff.rfl

theorem MemAt_sw {j n j2 : Nat} (hne : j ≠ j2) {ρ : Env} (hs : ρ.sz (.loc j) = ρ.sz (.loc j2)) {x : RId} {i : Nat} {w : World} {own : Bool} {ty sz cap len : Nat} {get : Nat → List AC}
    (h : MemAt ρ (sw j n j2 x i).1 (sw j n j2 x i).2 w own ty sz cap len get) : MemAt (ρ.sw j n j2) x i w own ty sz cap len fun k => swl j n j2 (get k) := by
  obtain ⟨h1, h2, h3⟩ := h
  refine ⟨h1, fun k hk => ⟨by simp only [swl_map, List.length_map]; exact (h2 k hk).1, fun f c hc => ?_⟩, h3⟩
  simp only [swl_map, List.getElem?_map] at hc
  cases hx : (get k)[f]? with
  | none => simp [hx] at hc
  | some d =>
    simp [hx] at hc
    obtain ⟨v, e, q⟩ := (h2 k hk).2 f d hx
    exact ⟨v, e, hc ▸ (AC.Is_sw hne hs).2 q⟩

theorem Rg.up_sw (j n j2 : Nat) (g : Rg) : g.up.sw j n j2 = g.up := by
  have hc : ∀ c : AC, c.up.sw j n j2 = c.up := by
    intro c
    cases c with
    | clo f caps =>
      simp only [AC.up, AC.sw, List.map_map]
      congr 1
    | _ => rfl
  have hl : ∀ cs : List AC, swl j n j2 (cs.map AC.up) = cs.map AC.up := fun cs => by
    rw [swl_map, List.map_map]; exact List.map_congr_left fun c _ => hc c
  cases g with
  | box t cs => simp only [Rg.up, Rg.sw, hl]
  | arr o t s m c l g => simp only [Rg.up, Rg.sw, hl]

theorem RegOk_sw {j n j2 : Nat} (hne : j ≠ j2) {ρ : Env} (hs : ρ.sz (.loc j) = ρ.sz (.loc j2)) {x : RId} {w : World} {g : Rg} (hx : ∀ i, sw j n j2 x i = (x, i)) (h : RegOk ρ x w g) : RegOk (ρ.sw j n j2) x w (g.sw j n j2) := by
  cases g with
  | box t cs =>
    obtain ⟨h1, vs, h2, h3⟩ := h
    refine ⟨by simp only [Env.sw, hx]; exact h1, vs, by simp only [Env.sw, hx]; exact h2, (Cells_sw hne hs).2 h3⟩
  | arr o t s m c l g =>
    obtain ⟨h1, h2⟩ := h
    exact ⟨h1, fun i hi => MemAt_sw hne hs (by rw [hx]; exact h2 i hi)⟩


section
variable {W : Nat → Prop} {n0 : Nat} {w : World} {S : St} {j j2 i0 : Nat} (o : Bool) (t s : Nat) (LL : List (Nat × List (List AC))) {c : Nat} {X : List (List AC)} (hne : j ≠ j2) (hj : S.loc[j]? = some (.rows o t s LL)) (hj2 : S.loc[j2]? = some (.rows o t s [(c, X)])) (hi0 : i0 < LL.length)
include hne hj hj2
theorem swp_look (x : RId) : (S.swp j i0 j2 o t s LL c X).look x = if x = .loc j2 then some (.rows o t s (mapLL (swl j i0 j2) [LL.getD i0 (0, [])])) else if x = .loc j then some (.rows o t s (mapLL (swl j i0 j2) (LL.set i0 (c, X)))) else (S.look x).map (Rg.sw j i0 j2) := by
  have hlj : j < S.loc.length := (List.getElem?_eq_some_iff.1 hj).1
  have hlj2 : j2 < S.loc.length := (List.getElem?_eq_some_iff.1 hj2).1
  cases x with
  | loc q =>
    simp only [St.look, St.swp, setG_get, swR_get, RId.loc.injEq]
    by_cases h1 : q = j2
    · subst h1; simp [setG_length', swR_length, hlj2]
    · by_cases h2 : q = j
      · subst h2; simp [h1, swR_length, hlj]
      · simp [h1, h2]
  | out y =>
    simp only [St.look, St.swp, swO_find, reduceCtorEq, if_false]
    cases findO S.ov y with
    | some g => rfl
    | none =>
      simp only [Option.map_none]
      cases S.base y with
      | none => rfl
      | some g => simp [Rg.up_sw]
  | nil => simp [St.look]
theorem swp_agree {ρ ρ2 : Env} (hag : Agree (S.swp j i0 j2 o t s LL c X).look (ρ.sw j i0 j2) ρ2) : Agree S.look ρ (ρ2.sw j i0 j2) := by
  have hlook := swp_look (i0 := i0) o t s LL hne hj hj2
  have hsome : ∀ x g, S.look x = some g → ∃ g', (S.swp j i0 j2 o t s LL c X).look x = some g' := by
    intro x g e
    rw [hlook]
    split
    · exact ⟨_, rfl⟩
    · split
      · exact ⟨_, rfl⟩
      · rw [e]; exact ⟨_, rfl⟩
  have hdom : ∀ (x : RId) (i : Nat) g, S.look x = some g → ∃ g', (S.swp j i0 j2 o t s LL c X).look (sw j i0 j2 x i).1 = some g' := by
    intro x i g e
    cases x with
    | loc q =>
      simp only [sw]
      split
      · exact hsome (.loc j2) _ hj2
      · split
        · exact hsome (.loc j) _ hj
        · exact hsome _ _ e
    | out y => exact hsome _ _ e
    | nil => exact hsome _ _ e
  intro x g e
  refine ⟨fun i => ?_, fun i => ?_, ?_⟩
  · obtain ⟨g', e'⟩ := hdom x i g e
    have := (hag _ g' e').blk (sw j i0 j2 x i).2
    simp only [Env.sw, sw_sw hne] at this
    exact this
  · obtain ⟨g', e'⟩ := hdom x i g e
    have := (hag _ g' e').base (sw j i0 j2 x i).2
    simp only [Env.sw, sw_sw hne] at this
    exact this
  · obtain ⟨g', e'⟩ := hsome x g e
    exact (hag _ g' e').sz
include hi0
/-- MEMBERS CHANGE THEIR NAMES. -/
theorem Mem_swap {ρ ρ2 : Env} (hm : ∀ ρ1, Agree S.look ρ ρ1 → MemOk W n0 ρ1 S.look w) (hag : Agree (S.swp j i0 j2 o t s LL c X).look (ρ.sw j i0 j2) ρ2) :
    MemOk W n0 ρ2 (S.swp j i0 j2 o t s LL c X).look w ∧ (ρ2.sw j i0 j2).sz (.loc j) = (ρ2.sw j i0 j2).sz (.loc j2) ∧ (ρ2.sw j i0 j2).sw j i0 j2 = ρ2 := by
  have hlook := swp_look (i0 := i0) o t s LL hne hj hj2
  have R := hm _ (swp_agree o t s LL hne hj hj2 hag)
  have Rj := R.regs (.loc j) _ hj
  have Rj2 := R.regs (.loc j2) _ hj2
  have hs2 : ρ2.sz (.loc j) = s := Rj.1
  have hs3 : ρ2.sz (.loc j2) = s := Rj2.1
  have hs : (ρ2.sw j i0 j2).sz (.loc j) = (ρ2.sw j i0 j2).sz (.loc j2) := hs2.trans hs3.symm
  have hss : (ρ2.sw j i0 j2).sw j i0 j2 = ρ2 := by
    unfold Env.sw
    simp only [sw_sw hne]
  have hset : ∀ i, i < LL.length → (LL.set i0 (c, X)).getD i (0, []) = if i = i0 then (c, X) else LL.getD i (0, []) := by
    intro i hi
    rw [List.getD_eq_getElem?_getD, List.getElem?_set]
    by_cases e : i0 = i
    · subst e; simp [hi]
    · rw [if_neg e, if_neg (Ne.symm e), List.getD_eq_getElem?_getD]
  -- where a member of S' comes from
  have hsrc : ∀ x g i, (S.swp j i0 j2 o t s LL c X).look x = some g → g.has i → ∃ G, S.look (sw j i0 j2 x i).1 = some G ∧ (g.own = true → G.own = true) ∧ G.has (sw j i0 j2 x i).2 := by
    intro x g i e hh
    rw [hlook] at e
    split at e
    · rename_i h1; subst h1
      obtain rfl := Option.some.inj e
      obtain ⟨h1, h2⟩ := hh
      have h1 : i < 1 := by simpa [mapLL] using h1
      obtain rfl : i = 0 := by omega
      have hs1 : sw j i0 j2 (.loc j2) 0 = (.loc j, i0) := by simp [sw, Ne.symm hne]
      rw [hs1]
      refine ⟨.rows o t s LL, hj, id, hi0, ?_⟩
      have h2 : 0 < ((mapLL (swl j i0 j2) [LL.getD i0 (0, [])]).getD 0 (0, [])).1 := h2
      rw [mapLL_getD (swl j i0 j2) rfl] at h2
      exact h2
    · split at e
      · rename_i h1 h2
        subst h2
        obtain rfl := Option.some.inj e
        obtain ⟨h3, h4⟩ := hh
        have h3 : i < (mapLL (swl j i0 j2) (LL.set i0 (c, X))).length := h3
        rw [mapLL_eq, List.length_map, List.length_set] at h3
        have h4 : 0 < ((mapLL (swl j i0 j2) (LL.set i0 (c, X))).getD i (0, [])).1 := h4
        rw [mapLL_getD (swl j i0 j2) rfl, hset i h3] at h4
        by_cases hi : i = i0
        · subst hi
          have hs1 : sw j i j2 (.loc j) i = (.loc j2, 0) := by simp [sw]
          rw [hs1]
          rw [if_pos rfl] at h4
          exact ⟨.rows o t s [(c, X)], hj2, id, Nat.zero_lt_one, h4⟩
        · have hs1 : sw j i0 j2 (.loc j) i = (.loc j, i) := by simp [sw, hi, hne]
          rw [hs1]
          rw [if_neg hi] at h4
          exact ⟨.rows o t s LL, hj, id, h3, h4⟩
      · rename_i h1 h2
        cases hx : S.look x with
        | none => simp [hx] at e
        | some G =>
          simp [hx] at e
          have hid : sw j i0 j2 x i = (x, i) := by
            cases x with
            | loc q => simp only [RId.loc.injEq] at h1 h2; simp [sw, h1, h2]
            | _ => rfl
          rw [hid]
          refine ⟨G, hx, ?_, ?_⟩
          · subst e; cases G <;> exact id
          · subst e; cases G <;> exact hh
  refine ⟨⟨fun x g e => ?_, fun x g i x' g' i' e ho hh e' hh' hne2 => ?_, fun x g i e ho hh => ?_, fun x g i e hh => ?_⟩, hs, hss⟩
  · rw [← hss]
    rw [hlook] at e
    have hg : ∀ (L : List (Nat × List (List AC))) i k, ((mapLL (swl j i0 j2) L).getD i (0, [])).2.getD k [] = swl j i0 j2 ((L.getD i (0, [])).2.getD k []) := fun L i k => by
      rw [mapLL_getD _ rfl]; exact getD_map0 _ rfl _ _
    have hc : ∀ (L : List (Nat × List (List AC))) i, ((mapLL (swl j i0 j2) L).getD i (0, [])).1 = (L.getD i (0, [])).1 := fun L i => by rw [mapLL_getD _ rfl]
    have hl : ∀ (L : List (Nat × List (List AC))) i, ((mapLL (swl j i0 j2) L).getD i (0, [])).2.length = (L.getD i (0, [])).2.length := fun L i => by rw [mapLL_getD _ rfl]; simp
    split at e
    · rename_i hx; subst hx
      obtain rfl := Option.some.inj e
      refine ⟨hs3, fun i hi => ?_⟩
      have hi : i < 1 := by simpa [mapLL] using hi
      obtain rfl : i = 0 := by omega
      show MemAt _ _ _ _ _ _ _ _ _ _
      simp only [hg, hc, hl]
      refine MemAt_sw hne hs ?_
      have hs1 : sw j i0 j2 (.loc j2) 0 = (.loc j, i0) := by simp [sw, Ne.symm hne]
      rw [hs1]
      exact Rj.2 i0 hi0
    · split at e
      · rename_i h1 h2
        subst h2
        obtain rfl := Option.some.inj e
        refine ⟨hs2, fun i hi => ?_⟩
        have hi : i < (mapLL (swl j i0 j2) (LL.set i0 (c, X))).length := hi
        rw [mapLL_eq, List.length_map, List.length_set] at hi
        show MemAt _ _ _ _ _ _ _ _ _ _
        simp only [hg, hc, hl, hset i hi]
        refine MemAt_sw hne hs ?_
        by_cases hi2 : i = i0
        · subst hi2
          have hs1 : sw j i j2 (.loc j) i = (.loc j2, 0) := by simp [sw]
          rw [hs1]
          simp only [if_pos]
          exact Rj2.2 0 Nat.zero_lt_one
        · have hs1 : sw j i0 j2 (.loc j) i = (.loc j, i) := by simp [sw, hi2, hne]
          rw [hs1]
          simp only [if_neg hi2]
          exact Rj.2 i hi
      · rename_i h1 h2
        cases hx : S.look x with
        | none => simp [hx] at e
        | some G =>
          simp [hx] at e
          subst e
          refine RegOk_sw hne hs (fun i => ?_) (R.regs _ _ hx)
          cases x with
          | loc q => simp only [RId.loc.injEq] at h1 h2; simp [sw, h1, h2]
          | _ => rfl
  · obtain ⟨G, e1, e2, e3⟩ := hsrc x g i e hh
    obtain ⟨G', e1', e2', e3'⟩ := hsrc x' g' i' e' hh'
    have := R.dis _ G _ _ G' _ e1 (e2 ho) e3 e1' e3' ?_
    · simp only [Env.sw, sw_sw hne] at this; exact this
    · by_cases hq : (sw j i0 j2 x i).1 = (sw j i0 j2 x' i').1
      · refine .inr fun hq2 => ?_
        have h1 := sw_sw (n := i0) hne x i
        have h2 := sw_sw (n := i0) hne x' i'
        rw [hq, hq2, h2] at h1
        simp only [Prod.mk.injEq] at h1
        rcases hne2 with h | h
        · exact h h1.1.symm
        · exact h h1.2.symm
      · exact .inl hq
  · obtain ⟨G, e1, e2, e3⟩ := hsrc x g i e hh
    have := R.wr _ G _ e1 (e2 ho) e3
    simp only [Env.sw, sw_sw hne] at this; exact this
  · obtain ⟨G, e1, e2, e3⟩ := hsrc x g i e hh
    have := R.lt _ G _ e1 e3
    simp only [Env.sw, sw_sw hne] at this; exact this
end

/-- a state and a value, told otherwise -/
def LeV (S : St) (av : AV) (S' : St) (av' : AV) : Prop := ∀ (W : Nat → Prop) (w0 : World) (ρ : Env) (a : Act) (w : World), Mt W w0 ρ S a w → ∃ ρ', (∀ x, Same ρ ρ' (.out x)) ∧ Mt W w0 ρ' S' a w ∧
  ∀ v, (∀ ρ1, Agree S.look ρ ρ1 → av.Is ρ1 v) → ∀ ρ1, Agree S'.look ρ' ρ1 → av'.Is ρ1 v
theorem LeV.refl (S : St) (av : AV) : LeV S av S av := fun _ _ ρ _ _ hm => ⟨ρ, fun _ => Same.refl _ _, hm, fun _ h => h⟩
theorem LeV.trans {S S' S'' : St} {a a' a'' : AV} (h : LeV S a S' a') (k : LeV S' a' S'' a'') : LeV S a S'' a'' := by
  intro W w0 ρ x w hm
  obtain ⟨ρ1, h1, h2, h3⟩ := h W w0 ρ x w hm
  obtain ⟨ρ2, k1, k2, k3⟩ := k W w0 ρ1 x w h2
  exact ⟨ρ2, fun x => (h1 x).trans (k1 x), k2, fun v hv => k3 v (h3 v hv)⟩
theorem LeV.le {S S' : St} {a a' : AV} (h : LeV S a S' a') : Le S S' := fun W w0 ρ x w hm => by
  obtain ⟨ρ1, h1, h2, _⟩ := h W w0 ρ x w hm
  exact ⟨ρ1, h1, h2⟩
theorem LeV_swap {S : St} {av : AV} {j j2 i0 : Nat} (o : Bool) (t s : Nat) (LL : List (Nat × List (List AC))) {c : Nat} {X : List (List AC)} (hne : j ≠ j2) (hj : S.loc[j]? = some (.rows o t s LL)) (hj2 : S.loc[j2]? = some (.rows o t s [(c, X)])) (hi0 : i0 < LL.length) :
    LeV S av (S.swp j i0 j2 o t s LL c X) (av.sw j i0 j2) := by
  intro W w0 ρ a w hm
  refine ⟨ρ.sw j i0 j2, fun x => ⟨fun _ => rfl, fun _ => rfl, rfl⟩, fun ρ2 hag => ?_, fun v hv ρ2 hag => ?_⟩
  · have hA := swp_agree o t s LL hne hj hj2 hag
    obtain ⟨h1, hs, hss⟩ := Mem_swap o t s LL hne hj hj2 hi0 (fun ρ1 h1 => (hm ρ1 h1).mem) hag
    have R := hm _ hA
    refine ⟨h1, R.fr, ?_, fun q sl e => ?_, R.defers⟩
    · rw [R.size]; simp [St.swp, swT_length]
    · rw [← hss]
      simp only [St.swp, swT_get] at e
      cases hq : S.tmps[q]? with
      | none => simp [hq] at e
      | some sl0 =>
        simp [hq] at e
        subst e
        have := R.tmps q _ hq
        cases sl0 with
        | un => trivial
        | v g b => exact ⟨fun hg => AV.Is_sw hne hs (this.1 hg), this.2⟩
  · have hA := swp_agree o t s LL hne hj hj2 hag
    obtain ⟨_, hs, hss⟩ := Mem_swap o t s LL hne hj hj2 hi0 (fun ρ1 h1 => (hm ρ1 h1).mem) hag
    rw [← hss]
    exact AV.Is_sw hne hs (hv _ hA)
theorem Le_swap {S : St} {j j2 i0 : Nat} (o : Bool) (t s : Nat) (LL : List (Nat × List (List AC))) {c : Nat} {X : List (List AC)} (hne : j ≠ j2) (hj : S.loc[j]? = some (.rows o t s LL)) (hj2 : S.loc[j2]? = some (.rows o t s [(c, X)])) (hi0 : i0 < LL.length) :
    Le S (S.swp j i0 j2 o t s LL c X) := (LeV_swap (av := .c (.bool true)) o t s LL hne hj hj2 hi0).le

/-! ### empty families -/
theorem LeV_fam {S : St} {av : AV} (t s n : Nat) : LeV S av (S.alloc (.rows true t s (List.replicate n (0, [])))) av := by
  intro W w0 ρ0 a w hm
  have hn : ∀ x g', S.look x = some g' → x ≠ .loc S.loc.length := fun x g' h e => by subst e; rw [look_len] at h; cases h
  have hag' : ∀ {ρ}, Agree (S.alloc (.rows true t s (List.replicate n (0, [])))).look (ρ0.set (.loc S.loc.length) 0 s) ρ → Agree S.look ρ0 ρ := by
    intro ρ hρ x g' hx
    have hne := hn x g' hx
    have := hρ x g' (by rw [look_alloc, if_neg hne]; exact hx)
    exact ⟨fun i => by have := this.blk i; simpa [Env.set, hne] using this, fun i => by have := this.base i; simpa [Env.set, hne] using this, by have := this.sz; simpa [Env.set, hne] using this⟩
  have hg0 : ∀ i, ((List.replicate n ((0 : Nat), ([] : List (List AC)))).getD i (0, [])) = (0, []) := fun i => by
    rw [List.getD_eq_getElem?_getD, List.getElem?_replicate]
    split <;> rfl
  have hno : ∀ i, ¬ (Rg.rows true t s (List.replicate n (0, []))).has i := by
    rintro i ⟨_, h2⟩
    have h2 : 0 < ((List.replicate n ((0 : Nat), ([] : List (List AC)))).getD i (0, [])).1 := h2
    rw [hg0] at h2
    exact absurd h2 (by simp)
  refine ⟨ρ0.set (.loc S.loc.length) 0 s, fun x => ⟨fun i => by simp [Env.set], fun i => by simp [Env.set], by simp [Env.set]⟩, fun ρ hρ => ?_, fun v hv ρ hρ => hv ρ (hag' hρ)⟩
  have hnew := hρ (.loc S.loc.length) _ (by rw [look_alloc, if_pos rfl])
  have hsz : ρ.sz (.loc S.loc.length) = s := by have := hnew.sz; simpa [Env.set] using this.symm
  have hr := hm ρ (hag' hρ)
  refine ⟨⟨fun x g e => ?_, fun x g i x' g' i' e ho hh e' hh' hne => ?_, fun x g i e ho hh => ?_, fun x g i e hh => ?_⟩, hr.fr, hr.size, hr.tmps, hr.defers⟩
  · rw [look_alloc] at e
    split at e
    · rename_i ex; subst ex; obtain rfl := Option.some.inj e
      refine ⟨hsz, fun i hi => ?_⟩
      show MemAt _ _ _ _ _ _ _ _ _ _
      simp only [hg0]
      exact ⟨Nat.le_refl _, fun k hk => absurd hk (by simp), fun _ h => absurd h (by simp)⟩
    · exact hr.mem.regs x g e
  · rw [look_alloc] at e e'
    split at e
    · obtain rfl := Option.some.inj e; exact absurd hh (hno _)
    · split at e'
      · obtain rfl := Option.some.inj e'; exact absurd hh' (hno _)
      · exact hr.mem.dis x g i x' g' i' e ho hh e' hh' hne
  · rw [look_alloc] at e
    split at e
    · obtain rfl := Option.some.inj e; exact absurd hh (hno _)
    · exact hr.mem.wr x g i e ho hh
  · rw [look_alloc] at e
    split at e
    · obtain rfl := Option.some.inj e; exact absurd hh (hno _)
    · exact hr.mem.lt x g i e hh
theorem Le_fam {S : St} (t s n : Nat) : Le S (S.alloc (.rows true t s (List.replicate n (0, [])))) := (LeV_fam (av := .c (.bool true)) t s n).le

/-! ### slices without capacity may stand anywhere -/
def eqvL : List (List AC) → List (List AC) → Prop
  | [], [] => True
  | c :: r, d :: r' => eqvl c d ∧ eqvL r r'
  | _, _ => False
theorem eqvL_len : ∀ {A B : List (List AC)}, eqvL A B → A.length = B.length
  | [], [], _ => rfl
  | _ :: _, _ :: _, h => by simp [eqvL_len h.2]
  | [], _ :: _, h => h.elim
  | _ :: _, [], h => h.elim
theorem eqvL_get : ∀ {A B : List (List AC)}, eqvL A B → ∀ k, eqvl (A.getD k []) (B.getD k [])
  | [], [], _, _ => trivial
  | _ :: _, _ :: _, h, 0 => h.1
  | _ :: _, _ :: _, h, k + 1 => by simpa using eqvL_get h.2 k
  | [], _ :: _, h, _ => h.elim
  | _ :: _, [], h, _ => h.elim
theorem eqvL_refl : ∀ A : List (List AC), eqvL A A
  | [] => trivial
  | c :: r => ⟨eqvl_refl c, eqvL_refl r⟩
theorem eqvl_len : ∀ {A B : List AC}, eqvl A B → A.length = B.length
  | [], [], _ => rfl
  | _ :: _, _ :: _, h => by simp [eqvl_len h.2]
  | [], _ :: _, h => h.elim
  | _ :: _, [], h => h.elim
theorem eqvl_getq : ∀ {A B : List AC}, eqvl A B → ∀ (f : Nat) d, B[f]? = some d → ∃ c, A[f]? = some c ∧ c.eqv d
  | [], [], _, f, d, e => by simp at e
  | c :: _, _ :: _, h, 0, d, e => by simp at e; subst e; exact ⟨c, rfl, h.1⟩
  | _ :: _, _ :: _, h, f + 1, d, e => by simpa using eqvl_getq h.2 f d (by simpa using e)
  | [], _ :: _, h, _, _, _ => h.elim
  | _ :: _, [], h, _, _, _ => h.elim
theorem LeV_eqv {S : St} {av : AV} {j : Nat} (o : Bool) (t s : Nat) {c : Nat} {A : List (List AC)} (B : List (List AC)) (hj : S.loc[j]? = some (.rows o t s [(c, A)])) (h : eqvL A B) :
    LeV S av { S with loc := setG S.loc j (.rows o t s [(c, B)]) } av := by
  intro W w0 ρ0 a w hm
  have hlj : j < S.loc.length := (List.getElem?_eq_some_iff.1 hj).1
  have hlook : ∀ x, ({ S with loc := setG S.loc j (.rows o t s [(c, B)]) } : St).look x = if x = .loc j then some (.rows o t s [(c, B)]) else S.look x := by
    intro x
    cases x with
    | loc q =>
      simp only [St.look, setG_get, RId.loc.injEq]
      by_cases h1 : q = j
      · simp [h1, hlj]
      · simp [h1]
    | _ => simp [St.look]
  have hlj' : S.look (.loc j) = some (.rows o t s [(c, A)]) := hj
  have hag' : ∀ {ρ}, Agree ({ S with loc := setG S.loc j (.rows o t s [(c, B)]) } : St).look ρ0 ρ → Agree S.look ρ0 ρ := by
    intro ρ hρ x g hx
    by_cases hxj : x = .loc j
    · exact hρ x (.rows o t s [(c, B)]) (by rw [hlook, if_pos hxj])
    · exact hρ x g (by rw [hlook, if_neg hxj]; exact hx)
  refine ⟨ρ0, fun _ => Same.refl _ _, fun ρ hρ => ?_, fun v hv ρ hρ => hv ρ (hag' hρ)⟩
  have R := hm ρ (hag' hρ)
  have hsrc : ∀ x g, ({ S with loc := setG S.loc j (.rows o t s [(c, B)]) } : St).look x = some g → ∃ G, S.look x = some G ∧ G.own = g.own ∧ ∀ i, g.has i → G.has i := by
    intro x g e
    rw [hlook] at e
    split at e
    · rename_i hx; subst hx
      obtain rfl := Option.some.inj e
      refine ⟨_, hlj', rfl, fun i hi => ?_⟩
      obtain ⟨h1, h2⟩ := hi
      have h1' : i < 1 := h1
      obtain rfl : i = 0 := by omega
      exact ⟨h1, h2⟩
    · exact ⟨g, e, rfl, fun _ h => h⟩
  refine ⟨⟨fun x g e => ?_, fun x g i x' g' i' e ho hh e' hh' hne => ?_, fun x g i e ho hh => ?_, fun x g i e hh => ?_⟩, R.fr, R.size, R.tmps, R.defers⟩
  · rw [hlook] at e
    split at e
    · rename_i hx; subst hx
      obtain rfl := Option.some.inj e
      obtain ⟨h1, h2⟩ := R.mem.regs _ _ hlj'
      refine ⟨h1, fun i hi => ?_⟩
      have hi : i < 1 := hi
      obtain rfl : i = 0 := by omega
      obtain ⟨h3, h4, h5⟩ := h2 0 Nat.zero_lt_one
      have hl := eqvL_len h
      refine ⟨(by show B.length ≤ c; rw [← hl]; exact h3), fun k hk => ?_, h5⟩
      have hk : k < B.length := hk
      obtain ⟨h6, h7⟩ := h4 k (by show k < A.length; omega)
      have hkk := eqvL_get h k
      refine ⟨(by rw [← h6]; exact (eqvl_len hkk).symm), fun f d hd => ?_⟩
      obtain ⟨c', e1, e2⟩ := eqvl_getq hkk f d hd
      obtain ⟨v, e3, e4⟩ := h7 f c' e1
      exact ⟨v, e3, AC.eqv_Is e2 e4⟩
    · exact R.mem.regs x g e
  · obtain ⟨G, g1, g2, g3⟩ := hsrc x g e
    obtain ⟨G', g1', g2', g3'⟩ := hsrc x' g' e'
    exact R.mem.dis x G i x' G' i' g1 (by rw [g2]; exact ho) (g3 i hh) g1' (g3' i' hh') hne
  · obtain ⟨G, g1, g2, g3⟩ := hsrc x g e
    exact R.mem.wr x G i g1 (by rw [g2]; exact ho) (g3 i hh)
  · obtain ⟨G, g1, g2, g3⟩ := hsrc x g e
    exact R.mem.lt x G i g1 (g3 i hh)
theorem Le_eqv {S : St} {j : Nat} (o : Bool) (t s : Nat) {c : Nat} {A : List (List AC)} (B : List (List AC)) (hj : S.loc[j]? = some (.rows o t s [(c, A)])) (h : eqvL A B) :
    Le S { S with loc := setG S.loc j (.rows o t s [(c, B)]) } := (LeV_eqv (av := .c (.bool true)) o t s B hj h).le
/-- the slices that lie in region q, one behind the other: capacity and elements of each -/
def nestC {α : Type} (q : RId) (F : List (Nat × List α)) : List (List AC) := F.mapIdx fun i p => [.sl ⟨q, i, 0, 0⟩ p.2.length p.1]
theorem nest_len {α : Type} (q : RId) (F : List (Nat × List α)) : (nestC q F).length = F.length := by simp [nestC]
theorem nest_getq {α : Type} (q : RId) (F : List (Nat × List α)) (k : Nat) : (nestC q F)[k]? = (F[k]?).map fun p => [.sl ⟨q, k, 0, 0⟩ p.2.length p.1] := by simp [nestC]
end Go.Eng

namespace Go.Eng
open Cel (enc dec)

section
variable {α : Type} [Inhabited α]
/-- where p is first true, or -1 -/
def idx (p : α → Bool) (X : List α) : Int := match X.findIdx? p with
  | some i => (i : Int)
  | none => -1
/-- p is false at all places before i -/
def clear (p : α → Bool) (X : List α) (i : Nat) : Prop := ∀ j, j < i → p (X.getD j default) = false
theorem clear_zero (p : α → Bool) (X : List α) : clear p X 0 := fun j hj => absurd hj (by omega)
theorem clear_succ {p : α → Bool} {X : List α} {i : Nat} (h : clear p X i) (k : p (X.getD i default) = false) : clear p X (i + 1) := fun j hj => by
  rcases Nat.lt_or_eq_of_le (Nat.le_of_lt_succ hj) with h1 | h1
  · exact h j h1
  · subst h1; exact k
theorem getD_of_lt {X : List α} {i : Nat} (h : i < X.length) : X.getD i default = X[i] := by
  rw [List.getD_eq_getElem?_getD, List.getElem?_eq_getElem h]; rfl
theorem getD_mem {X : List α} {i : Nat} (h : i < X.length) : X.getD i default ∈ X := by
  rw [getD_of_lt h]; exact List.getElem_mem h
theorem idx_hit {p : α → Bool} {X : List α} {i : Nat} (h : clear p X i) (hi : i < X.length) (k : p (X.getD i default) = true) : idx p X = i := by
  unfold idx
  have : X.findIdx? p = some i := by
    rw [List.findIdx?_eq_some_iff_getElem]
    refine ⟨hi, by rw [getD_of_lt hi] at k; exact k, fun j hj => ?_⟩
    have := h j hj
    rw [getD_of_lt (by omega)] at this
    simp [this]
  rw [this]
theorem idx_miss {p : α → Bool} {X : List α} (h : clear p X X.length) : idx p X = -1 := by
  unfold idx
  have : X.findIdx? p = none := by
    rw [List.findIdx?_eq_none_iff]
    intro x hx
    obtain ⟨j, hj, rfl⟩ := List.getElem_of_mem hx
    have := h j hj
    rw [getD_of_lt hj] at this
    exact this
  rw [this]
theorem idx_range (p : α → Bool) (X : List α) : -1 ≤ idx p X ∧ idx p X < X.length := by
  unfold idx
  cases h : X.findIdx? p with
  | none => simp; omega
  | some i =>
    have := (List.findIdx?_eq_some_iff_getElem.1 h).1
    simp; omega
theorem idx_nonneg {p : α → Bool} {X : List α} (h : 0 ≤ idx p X) : ∃ i : Nat, idx p X = i ∧ i < X.length ∧ p (X.getD i default) = true ∧ clear p X i := by
  unfold idx at h ⊢
  cases hx : X.findIdx? p with
  | none => rw [hx] at h; simp at h
  | some i =>
    obtain ⟨h1, h2, h3⟩ := List.findIdx?_eq_some_iff_getElem.1 hx
    refine ⟨i, rfl, h1, by rw [getD_of_lt h1]; exact h2, fun j hj => ?_⟩
    have := h3 j hj
    rw [getD_of_lt (by omega)]
    simpa using this
theorem idx_any (p : α → Bool) (X : List α) : decide (0 ≤ idx p X) = X.any p := by
  unfold idx
  cases h : X.findIdx? p with
  | none =>
    rw [List.findIdx?_eq_none_iff] at h
    have : X.any p = false := by
      rw [List.any_eq_false]
      intro x hx
      rw [h x hx]; simp
    rw [this]; rfl
  | some i =>
    obtain ⟨h1, h2, h3⟩ := List.findIdx?_eq_some_iff_getElem.1 h
    have : X.any p = true := by
      rw [List.any_eq_true]
      exact ⟨_, List.getElem_mem h1, h2⟩
    rw [this]
    simp
theorem clear_any {p : α → Bool} {X : List α} (h : clear p X X.length) : X.any p = false := by
  rw [List.any_eq_false]
  intro x hx
  obtain ⟨j, hj, rfl⟩ := List.getElem_of_mem hx
  have := h j hj
  rw [getD_of_lt hj] at this
  rw [this]; simp
theorem hit_any {p : α → Bool} {X : List α} {i : Nat} (hi : i < X.length) (k : p (X.getD i default) = true) : X.any p = true := by
  rw [List.any_eq_true]
  rw [getD_of_lt hi] at k
  exact ⟨_, List.getElem_mem hi, k⟩
theorem clear_all {p : α → Bool} {X : List α} (h : clear (fun x => !p x) X X.length) : X.all p = true := by
  rw [List.all_eq_true]
  intro x hx
  obtain ⟨j, hj, rfl⟩ := List.getElem_of_mem hx
  have := h j hj
  rw [getD_of_lt hj] at this
  simpa using this
theorem hit_all {p : α → Bool} {X : List α} {i : Nat} (hi : i < X.length) (k : p (X.getD i default) = false) : X.all p = false := by
  rw [List.all_eq_false]
  rw [getD_of_lt hi] at k
  exact ⟨_, List.getElem_mem hi, by rw [k]; simp⟩
/-- two lists that are equal so far -/
theorem eq_step {X Y : List α} {i : Nat} (h : X.take i = Y.take i) (hx : i < X.length) (hy : i < Y.length) (k : X.getD i default = Y.getD i default) : X.take (i + 1) = Y.take (i + 1) := by
  rw [take_step X i default hx, take_step Y i default hy, h, k]
theorem ne_of_getD {X Y : List α} {i : Nat} (k : X.getD i default ≠ Y.getD i default) : X ≠ Y := fun h => k (by rw [h])
theorem eq_of_take {X Y : List α} (hl : X.length = Y.length) (h : X.take X.length = Y.take X.length) : X = Y := by
  rwa [List.take_length, hl, List.take_length] at h
end

/-! ### bits of a byte -/
theorem and_byte (x : Int) : 0 ≤ bits .and .i64 x 255 ∧ bits .and .i64 x 255 ≤ 255 := by
  have hle : (BitVec.ofInt 64 x &&& BitVec.ofInt 64 255).toNat ≤ 255 := by
    rw [BitVec.toNat_and]
    exact Nat.le_trans Nat.and_le_right (by decide)
  have e : bits .and .i64 x 255 = IntKind.i64.wrap ((BitVec.ofInt 64 x &&& BitVec.ofInt 64 255).toNat : Int) := rfl
  rw [e, w64 (by omega) (by omega)]
  omega

/-! ### a pointer to a struct of three: what is read on, where, and a number -/
def curK (a : AA) (o : Option Rg) (K : RId → TypeId → AA → Nat → Nat → Int → Int → Spec) : Spec :=
  match a, o with
  | ⟨r, 0, 0, 0⟩, some (.box t [.sl b n c, .int .i64 p, .int .i64 h]) => K r t b n c p h
  | _, _ => .bad
theorem curK_box {r t b n c p h K} : curK ⟨r, 0, 0, 0⟩ (some (.box t [.sl b n c, .int .i64 p, .int .i64 h])) K = K r t b n c p h := Eq.trans rfl rfl
theorem curK_cases {P : Program} {f : FuncId} {args : List AV} {M : RId → Option Rg} {a : AA} {o : Option Rg} {K : RId → TypeId → AA → Nat → Nat → Int → Int → Spec}
    (h : ∀ r t b n c p h, a = ⟨r, 0, 0, 0⟩ → o = some (.box t [.sl b n c, .int .i64 p, .int .i64 h]) → (K r t b n c p h).OK P f args M) : (curK a o K).OK P f args M := by
  unfold curK
  split
  · exact h _ _ _ _ _ _ _ rfl rfl
  · trivial
/-- it may be read -/
def CurOk (b : AA) (n : Nat) (p : Int) (o : Option Rg) : Prop := RowOk UInt8 b n o ∧ 0 ≤ p ∧ p ≤ n
theorem CurOk_eq {b : AA} {n : Nat} {p : Int} {o : Option Rg} : CurOk b n p o = (RowOk UInt8 b n o ∧ 0 ≤ p ∧ p ≤ n) := Eq.trans rfl rfl
/-- the cursor is not what is read -/
theorem cur_alias {M : RId → Option Rg} {b : AA} {n : Nat} {r : RId} {t : TypeId} {cs : List AC} (hb : RowOk UInt8 b n (M b.r)) (hr : M r = some (.box t cs)) (t' : TypeId) (cs' : List AC) :
    RowOk UInt8 b.up n (if r = b.r then some (.box t' cs') else Option.map Rg.up (M b.r)) := by
  by_cases h : r = b.r
  · rw [if_pos h]
    rw [← h, hr] at hb
    exact ⟨hb.1, hb.2.imp id fun h => h.elim⟩
  · rw [if_neg h, RowOk_up]; exact hb
theorem tmod_range {x k : Int} (hx : 0 ≤ x) (hk : 0 < k) : 0 ≤ x.tmod k ∧ x.tmod k < k := ⟨Int.tmod_nonneg _ hx, Int.tmod_lt_of_pos _ hk⟩
end Go.Eng

namespace Go.Eng
open Cel (enc dec)
section
variable {T : List Sl} {B : RId → Option Rg} {V : List (RId × Rg)} {L : List Rg}
theorem setT_nil' {t : Nat} {s : Sl} : setT [] t s = [] := Eq.trans rfl rfl
theorem setT_zero {x s : Sl} {r : List Sl} : setT (x :: r) 0 s = s :: r := Eq.trans rfl rfl
theorem setT_succ {x s : Sl} {r : List Sl} {t : Nat} : setT (x :: r) (t + 1) s = x :: setT r t s := Eq.trans rfl rfl
theorem put_some {t : Nat} {s : Sl} : St.put ⟨T, B, V, L⟩ (some t) s = ⟨setT T t s, B, V, L⟩ := Eq.trans rfl rfl
theorem put_none {S : St} {s : Sl} : S.put none s = S := Eq.trans rfl rfl
theorem alloc_mk {g : Rg} : St.alloc ⟨T, B, V, L⟩ g = ⟨T, B, V, L ++ [g]⟩ := Eq.trans rfl rfl
theorem nx_mk : St.nx ⟨T, B, V, L⟩ = ⟨.loc L.length, 0, 0, 0⟩ := Eq.trans rfl rfl
theorem setRg_loc {n : Nat} {g : Rg} : St.setRg ⟨T, B, V, L⟩ (.loc n) g = ⟨T, B, V, setG L n g⟩ := Eq.trans rfl rfl
theorem setRg_out {x : RId} {g : Rg} : St.setRg ⟨T, B, V, L⟩ (.out x) g = ⟨T, B, setO V x g, L⟩ := Eq.trans rfl rfl
theorem setG_nil' {n : Nat} {g : Rg} : setG [] n g = [] := Eq.trans rfl rfl
theorem setG_zero {x g : Rg} {r : List Rg} : setG (x :: r) 0 g = g :: r := Eq.trans rfl rfl
theorem setG_succ {x g : Rg} {r : List Rg} {n : Nat} : setG (x :: r) (n + 1) g = x :: setG r n g := Eq.trans rfl rfl
theorem setO_nil' {y : RId} {g : Rg} : setO [] y g = [(y, g)] := Eq.trans rfl rfl
theorem setO_cons' {x y : RId} {h g : Rg} {r : List (RId × Rg)} : setO ((x, h) :: r) y g = if x = y then (y, g) :: r else (x, h) :: setO r y g := Eq.trans rfl rfl
theorem findO_nil' {x : RId} : findO [] x = none := Eq.trans rfl rfl
theorem findO_cons' {x y : RId} {g : Rg} {r : List (RId × Rg)} : findO ((y, g) :: r) x = if y = x then some g else findO r x := Eq.trans rfl rfl
theorem setAll_nil {S : St} {n : Nat} : S.setAll n [] = S := Eq.trans rfl rfl
theorem setAll_cons {S : St} {n : Nat} {x : RId} {g : Rg} {r : List (RId × Rg)} : S.setAll n ((x, g) :: r) = (S.setAll n r).setRg x (g.dn n) := Eq.trans rfl rfl
theorem dnr_nil' {n : Nat} : dnr n [] = [] := Eq.trans rfl rfl
theorem dnr_cons {n : Nat} {g : Rg} {r : List Rg} : dnr n (g :: r) = g.dn n :: dnr n r := Eq.trans rfl rfl
theorem dnl_nil {n : Nat} : dnl n [] = [] := Eq.trans rfl rfl
theorem dnl_cons {n : Nat} {c : AC} {r : List AC} : dnl n (c :: r) = c.dn n :: dnl n r := Eq.trans rfl rfl
theorem dnt_nil {n : Nat} : dnt n [] = [] := Eq.trans rfl rfl
theorem dnt_cons {n : Nat} {b : Bool} {cs : List AC} {r : List (Bool × List AC)} : dnt n ((b, cs) :: r) = (b, dnl n cs) :: dnt n r := Eq.trans rfl rfl
theorem enter_eq {nt : Nat} {args : List AV} {M : RId → Option Rg} : St.enter nt args M = ⟨args.map (fun a => .v true a.up) ++ List.replicate (nt - args.length) .un, M, [], []⟩ := Eq.trans rfl rfl
theorem slots_n {n : Nat} : slots n [] = List.replicate n .un := Eq.trans rfl rfl
theorem slots_c {n t : Nat} {a : AV} {r : List (Nat × AV)} : slots n ((t, a) :: r) = setT (slots n r) t (.v true a) := Eq.trans rfl rfl
end
theorem up_c {x : AC} : (AV.c x).up = .c x.up := Eq.trans rfl rfl
theorem up_agg {xs : List AC} : (AV.agg xs).up = .agg (xs.map AC.up) := Eq.trans rfl rfl
theorem up_int {k : IntKind} {n : Int} : (AC.int k n).up = .int k n := Eq.trans rfl rfl
theorem up_bool {b : Bool} : (AC.bool b).up = .bool b := Eq.trans rfl rfl
theorem up_str {s : ByteArray} : (AC.str s).up = .str s := Eq.trans rfl rfl
theorem up_ptr {a : AA} : (AC.ptr a).up = .ptr a.up := Eq.trans rfl rfl
theorem up_sl {a : AA} {l c : Nat} : (AC.sl a l c).up = .sl a.up l c := Eq.trans rfl rfl
theorem up_clo {f : FuncId} {caps : List AA} : (AC.clo f caps).up = .clo f (caps.map AA.up) := Eq.trans rfl rfl
theorem up_raw {v : RV} : (AC.raw v).up = .raw v := Eq.trans rfl rfl
theorem up_mk {r : RId} {i k f : Nat} : (AA.mk r i k f).up = ⟨.out r, i, k, f⟩ := Eq.trans rfl rfl
theorem dn_c {n : Nat} {x : AC} : (AV.c x).dn n = .c (x.dn n) := Eq.trans rfl rfl
theorem dn_agg {n : Nat} {xs : List AC} : (AV.agg xs).dn n = .agg (dnl n xs) := Eq.trans rfl rfl
theorem dn_tup {n : Nat} {xs : List (Bool × List AC)} : (AV.tup xs).dn n = .tup (dnt n xs) := Eq.trans rfl rfl
theorem dn_int {n : Nat} {k : IntKind} {m : Int} : (AC.int k m).dn n = .int k m := Eq.trans rfl rfl
theorem dn_bool {n : Nat} {b : Bool} : (AC.bool b).dn n = .bool b := Eq.trans rfl rfl
theorem dn_str {n : Nat} {s : ByteArray} : (AC.str s).dn n = .str s := Eq.trans rfl rfl
theorem dn_ptr {n : Nat} {a : AA} : (AC.ptr a).dn n = .ptr (a.dn n) := Eq.trans rfl rfl
theorem dn_sl {n : Nat} {a : AA} {l c : Nat} : (AC.sl a l c).dn n = .sl (a.dn n) l c := Eq.trans rfl rfl
theorem dn_clo {n : Nat} {f : FuncId} {caps : List AA} : (AC.clo f caps).dn n = .clo f (caps.map (AA.dn n)) := Eq.trans rfl rfl
theorem dn_raw {n : Nat} {v : RV} : (AC.raw v).dn n = .raw v := Eq.trans rfl rfl
theorem cells_c {x : AC} : (AV.c x).cells = [x] := Eq.trans rfl rfl
theorem cells_agg {xs : List AC} : (AV.agg xs).cells = xs := Eq.trans rfl rfl
theorem noTup_c {x : AC} : (AV.c x).noTup = true := Eq.trans rfl rfl
theorem noTup_agg {xs : List AC} : (AV.agg xs).noTup = true := Eq.trans rfl rfl
theorem isAgg_c {x : AC} : (AV.c x).isAgg = false := Eq.trans rfl rfl
theorem isAgg_agg {xs : List AC} : (AV.agg xs).isAgg = true := Eq.trans rfl rfl
theorem cut_true {f n : Nat} {cs : List AC} : cut true f n cs = .agg ((cs.drop f).take n) := Eq.trans rfl rfl
theorem cut_false {f n : Nat} {cs : List AC} : cut false f n cs = .c (cs.getD f dfl) := Eq.trans rfl rfl
theorem patch_eq {cs vs : List AC} {f : Nat} : patch cs f vs = cs.take f ++ vs ++ cs.drop (f + vs.length) := Eq.trans rfl rfl
theorem setL_nil {j : Nat} {c : List AC} : setL [] j c = [] := Eq.trans rfl rfl
theorem setL_zero {x c : List AC} {r : List (List AC)} : setL (x :: r) 0 c = c :: r := Eq.trans rfl rfl
theorem setL_succ {x c : List AC} {r : List (List AC)} {j : Nat} : setL (x :: r) (j + 1) c = x :: setL r j c := Eq.trans rfl rfl
theorem mapLL_nil {f : List AC → List AC} : mapLL f [] = [] := Eq.trans rfl rfl
theorem mapLL_cons {f : List AC → List AC} {c : Nat} {L : List (List AC)} {r : List (Nat × List (List AC))} : mapLL f ((c, L) :: r) = (c, L.map f) :: mapLL f r := Eq.trans rfl rfl
theorem rowG_eq {α : Type} [Cel α] {own : Bool} {ty : TypeId} {c : Nat} {L : List α} : rowG own ty c L = .rows own ty (Cel.sz α) [(c, L.map enc)] := Eq.trans rfl rfl

section
variable {α β : Type}
theorem l_map_nil {f : α → β} : [].map f = [] := Eq.trans rfl rfl
theorem l_map_cons {f : α → β} {a : α} {l : List α} : (a :: l).map f = f a :: l.map f := Eq.trans rfl rfl
theorem l_nil_append {l : List α} : [] ++ l = l := Eq.trans rfl rfl
theorem l_append_nil {l : List α} : l ++ [] = l := by simp
theorem l_cons_append {a : α} {l m : List α} : (a :: l) ++ m = a :: (l ++ m) := Eq.trans rfl rfl
theorem l_length_nil : ([] : List α).length = 0 := Eq.trans rfl rfl
theorem l_length_cons {a : α} {l : List α} : (a :: l).length = l.length + 1 := Eq.trans rfl rfl
theorem l_rep_zero {a : α} : List.replicate 0 a = [] := Eq.trans rfl rfl
theorem l_rep_succ {a : α} {n : Nat} : List.replicate (n + 1) a = a :: List.replicate n a := Eq.trans rfl rfl
theorem l_get_nil {n : Nat} : ([] : List α)[n]? = none := by simp
theorem l_get_zero {a : α} {l : List α} : (a :: l)[0]? = some a := Eq.trans rfl rfl
theorem l_get_succ {a : α} {l : List α} {n : Nat} : (a :: l)[n + 1]? = l[n]? := Eq.trans rfl rfl
theorem l_getD_zero {a d : α} {l : List α} : (a :: l).getD 0 d = a := Eq.trans rfl rfl
theorem l_getD_succ {a d : α} {l : List α} {n : Nat} : (a :: l).getD (n + 1) d = l.getD n d := Eq.trans rfl rfl
theorem l_getD_nil {d : α} {n : Nat} : ([] : List α).getD n d = d := by simp
theorem l_drop_zero {l : List α} : l.drop 0 = l := Eq.trans rfl rfl
theorem l_drop_succ {a : α} {l : List α} {n : Nat} : (a :: l).drop (n + 1) = l.drop n := Eq.trans rfl rfl
theorem l_drop_nil {n : Nat} : ([] : List α).drop n = [] := by simp
theorem l_take_zero {l : List α} : l.take 0 = [] := Eq.trans rfl rfl
theorem l_take_succ {a : α} {l : List α} {n : Nat} : (a :: l).take (n + 1) = a :: l.take n := Eq.trans rfl rfl
theorem l_take_nil {n : Nat} : ([] : List α).take n = [] := by simp
theorem l_set_zero {a b : α} {l : List α} : (a :: l).set 0 b = b :: l := Eq.trans rfl rfl
theorem l_set_succ {a b : α} {l : List α} {n : Nat} : (a :: l).set (n + 1) b = a :: l.set n b := Eq.trans rfl rfl
theorem o_map_some {f : α → β} {a : α} : (some a).map f = some (f a) := Eq.trans rfl rfl
theorem o_map_none {f : α → β} : (none : Option α).map f = none := Eq.trans rfl rfl
end
/-- what a name from outside is -/
def outG (V : List (RId × Rg)) (o : Option Rg) (x : RId) : Option Rg :=
  match findO V x with
  | some g => some g
  | none => o.map Rg.up
theorem look_outG {T : List Sl} {B : RId → Option Rg} {V : List (RId × Rg)} {L : List Rg} {x : RId} : St.look ⟨T, B, V, L⟩ (.out x) = outG V (B x) x := Eq.trans rfl rfl
theorem outG_nil {o : Option Rg} {x : RId} : outG [] o x = o.map Rg.up := Eq.trans rfl rfl
theorem outG_cons {o : Option Rg} {x y : RId} {g : Rg} {r : List (RId × Rg)} : outG ((y, g) :: r) o x = if y = x then some g else outG r o x := by
  unfold outG
  rw [findO_cons']
  by_cases h : y = x
  · simp [h]
  · simp [h]
section
variable {S : St} {γ : Bool} {K : AV → Prop}
theorem rd_nilptr : rd S γ (.const (.pointer none)) K = K (.c (.raw .nilPtr)) := propext Iff.rfl
theorem rd_nilfn : rd S γ (.const .nilFunc) K = K (.c (.raw .nilFunc)) := propext Iff.rfl
theorem rd_nilif : rd S γ (.const .nilIface) K = K (.c (.raw .nilIface)) := propext Iff.rfl
theorem rd_nilmap : rd S γ (.const (.map none)) K = K (.c (.raw .nilMap)) := propext Iff.rfl
theorem nilO_tmp {t : Nat} : nilO (.tmp t) = false := Eq.trans rfl rfl
theorem nilO_int {k : IntKind} {n : Int} : nilO (.const (.int k n)) = false := Eq.trans rfl rfl
theorem nilO_bool {b : Bool} : nilO (.const (.bool b)) = false := Eq.trans rfl rfl
theorem nilO_str {s : ByteArray} : nilO (.const (.string s)) = false := Eq.trans rfl rfl
theorem nilO_sl : nilO (.const (.slice none 0 0)) = true := Eq.trans rfl rfl
theorem eqA_some {ks : List Nat} {xs ys : List AC} {K : Bool → Prop} : eqA (some ks) xs ys K = eqCs ks xs ys K := Eq.trans rfl rfl
theorem eqCs_nil {K : Bool → Prop} : eqCs [] [] [] K = K true := Eq.trans rfl rfl
theorem eqCs_int {ks : List Nat} {k : IntKind} {x y : Int} {xs ys : List AC} {K : Bool → Prop} : eqCs (0 :: ks) (.int k x :: xs) (.int k y :: ys) K = eqCs ks xs ys fun r => K (decide (x = y) && r) := by simp [eqCs]
theorem eqCs_bool {ks : List Nat} {x y : Bool} {xs ys : List AC} {K : Bool → Prop} : eqCs (1 :: ks) (.bool x :: xs) (.bool y :: ys) K = eqCs ks xs ys fun r => K (decide (x = y) && r) := by simp [eqCs]
theorem eqCs_str {ks : List Nat} {x y : ByteArray} {xs ys : List AC} {K : Bool → Prop} : eqCs (2 :: ks) (.str x :: xs) (.str y :: ys) K = eqCs ks xs ys fun r => K (decide (x = y) && r) := by simp [eqCs]
end
theorem imp_tt {p : Prop} : (true = true → p) = p := by simp
theorem imp_ff {p : Prop} : (false = false → p) = p := by simp
theorem imp_tf {p : Prop} : (true = false → p) = True := by simp
theorem imp_ft {p : Prop} : (false = true → p) = True := by simp
theorem dlt {i n : Nat} (h : i < n) : decide ((i : Int) < (n : Int)) = true := by simp; exact h
theorem dge {i n : Nat} (h : n ≤ i) : decide ((i : Int) < (n : Int)) = false := by simp; exact h
theorem wS {i : Nat} (h : i < 9223372036854775807) : IntKind.i64.wrap ((i : Int) + 1) = ((i + 1 : Nat) : Int) := by
  rw [w64 (by omega) (by omega)]; simp
/-! ### rules that wait for the state to be plain -/
section
variable {P : Program} {C : List Contract} {T : List Sl} {B : RId → Option Rg} {V : List (RId × Rg)} {L : List Rg} {S S' : St} {γ γ' : Bool}
theorem steps_plain' {ops : Array Oper} {r : List Oper} {d : Option Nat} {op : Op} {ty : TypeId} {pos : String} {after : Array Edge} {K : St → Prop} :
    stepsVC P C ops (⟨d, op, ty, pos, after, none⟩ :: r) ⟨T, B, V, L⟩ K = opVC P C op ⟨T, B, V, L⟩ true fun g a S' => stepsVC P C ops r (S'.put d (.v g a)) K := propext Iff.rfl
theorem steps_guard' {ops : Array Oper} {r : List Oper} {d : Option Nat} {op : Op} {ty : TypeId} {pos : String} {after : Array Edge} {j : Nat} {want : Bool} {K : St → Prop} :
    stepsVC P C ops (⟨d, op, ty, pos, after, some (j, want)⟩ :: r) ⟨T, B, V, L⟩ K = grdVC ops ⟨T, B, V, L⟩ (some (j, want)) fun γ => opVC P C op ⟨T, B, V, L⟩ γ fun g a S' => stepsVC P C ops r (S'.put d (.v g a)) K := propext Iff.rfl
theorem grd_some' {ops : List Oper} {j : Nat} {want : Bool} {K : Bool → Prop} : grdVC ops.toArray ⟨T, B, V, L⟩ (some (j, want)) K = grdD ops j fun d => grdT T d want K := grd_some
theorem dr_go' {ops : List Oper} {i : Nat} {r : OT} {K : St → Prop} : drVC P C ops.toArray (.go i r) ⟨T, B, V, L⟩ K = stepsVC P C ops.toArray (getO ops i) ⟨T, B, V, L⟩ fun S' => drVC P C ops.toArray r S' K := propext Iff.rfl
theorem dr_alt' {ops : List Oper} {i : Nat} {r o : OT} {K : St → Prop} : drVC P C ops.toArray (.alt i r o) ⟨T, B, V, L⟩ K = (stepsVC P C ops.toArray (getO ops i) ⟨T, B, V, L⟩ (fun S' => drVC P C ops.toArray r S' K) ∧ drVC P C ops.toArray o ⟨T, B, V, L⟩ K) := propext Iff.rfl
theorem dr_gob' {ops : List Oper} {i : Nat} {r : OT} {K : St → Prop} : drVC P C ops.toArray (.gob i r) ⟨T, B, V, L⟩ K = (boxRd ⟨T, B, V, L⟩ (getO ops i) ∧ stepsVC P C ops.toArray (getO ops i) ⟨T, B, V, L⟩ fun S' => drVC P C ops.toArray r S' K) := propext Iff.rfl
@[congr] theorem boxRd_congr {l l' : List Oper} (h : l = l') : boxRd S l = boxRd S l' := by rw [h]
theorem boxRd_load {d : Option Nat} {t : TypeId} {x : Operand} {ty : TypeId} {pos : String} {after : Array Edge} {g : Option (Nat × Bool)} : boxRd S [⟨d, .load t x, ty, pos, after, g⟩] = rd S false x fun a => asPtr a fun p => rgK (S.look p.r) (fun _ _ => True) (fun _ _ _ _ _ _ _ => False) False := by
  simp only [boxRd]
  congr 1
  funext a
  congr 1
  funext p
  cases S.look p.r with
  | none => rfl
  | some g => cases g <;> rfl
theorem rd_tmp' {t : Nat} {K : AV → Prop} : rd ⟨T, B, V, L⟩ γ (.tmp t) K = rdT T t γ K := propext Iff.rfl
@[congr] theorem rd_congr {x : Operand} {K : AV → Prop} (h : S = S') (k : γ = γ') : rd S γ x K = rd S' γ' x K := by rw [h, k]
theorem res_tmp' {t : Nat} {r : List ResultVar} {K : List AV → Prop} : resVC P ⟨T, B, V, L⟩ (.tmp t :: r) K = rdT T t true fun a => resVC P ⟨T, B, V, L⟩ r fun l => K (a :: l) := propext Iff.rfl
theorem res_cell' {t : Nat} {ty : TypeId} {r : List ResultVar} {K : List AV → Prop} : resVC P ⟨T, B, V, L⟩ (.cell t ty :: r) K = rdT T t true fun a => asPtr a fun p => loadVC P ⟨T, B, V, L⟩ true ty p fun v => resVC P ⟨T, B, V, L⟩ r fun l => K (v :: l) := propext Iff.rfl
@[congr] theorem res_congr {rs : List ResultVar} {K : List AV → Prop} (h : S = S') : resVC P S rs K = resVC P S' rs K := by rw [h]
@[congr] theorem exit_congr {rs : List ResultVar} {K : AV → Prop} (h : S = S') : exitVC P rs S K = exitVC P rs S' K := by rw [h]
theorem exit_eq' {rs : List ResultVar} {K : AV → Prop} : exitVC P rs ⟨T, B, V, L⟩ K = resVC P ⟨T, B, V, L⟩ rs fun l => match l with
    | [a] => K a
    | l => l.all AV.noTup = true ∧ K (.tup (l.map fun a => (a.isAgg, a.cells))) := exit_eq
end
/-! ### truth values as propositions -/
theorem pick_or {c d : Bool} : (bif c then true else d) = (c || d) := by cases c <;> rfl
theorem pick_and {c d : Bool} : (bif c then d else false) = (c && d) := by cases c <;> rfl
theorem bT_or {x y : Bool} : ((x || y) = true) = (x = true ∨ y = true) := by cases x <;> cases y <;> simp
theorem bF_or {x y : Bool} : ((x || y) = false) = (x = false ∧ y = false) := by cases x <;> cases y <;> simp
theorem bT_and {x y : Bool} : ((x && y) = true) = (x = true ∧ y = true) := by cases x <;> cases y <;> simp
theorem bF_and {x y : Bool} : ((x && y) = false) = (x = false ∨ y = false) := by cases x <;> cases y <;> simp
theorem bT_not {x : Bool} : ((!x) = true) = (x = false) := by cases x <;> simp
theorem bF_not {x : Bool} : ((!x) = false) = (x = true) := by cases x <;> simp
theorem bT_dec {p : Prop} [Decidable p] : (decide p = true) = p := by simp
theorem bF_dec {p : Prop} [Decidable p] : (decide p = false) = ¬ p := by simp
theorem f_dec {p : Prop} [Decidable p] : (false = decide p) = ¬ p := by rw [eq_comm (a := false)]; simp
theorem t_dec {p : Prop} [Decidable p] : (true = decide p) = p := by rw [eq_comm (a := true)]; simp
theorem d_dec {p q : Prop} [Decidable p] [Decidable q] : (decide p = decide q) = (p ↔ q) := by simp
theorem b_dec {b : Bool} {p : Prop} [Decidable p] : (b = decide p) = (b = true ↔ p) := by cases b <;> simp
theorem tt_true {x : Bool} : (true = x) = (x = true) := by rw [eq_comm (a := true)]
theorem ff_false {x : Bool} : (false = x) = (x = false) := by rw [eq_comm (a := false)]
theorem all_step {p : Nat → Prop} {i : Nat} (h : ∀ j, j < i → p j) (k : p i) : ∀ j, j < i + 1 → p j := fun j hj => by
  rcases Nat.lt_or_eq_of_le (Nat.le_of_lt_succ hj) with h1 | h1
  · exact h j h1
  · subst h1; exact k
theorem all_zero {p : Nat → Prop} : ∀ j, j < 0 → p j := fun j hj => absurd hj (by omega)
theorem rows_fold {o : Bool} {t s : Nat} {LL : List (Nat × List (List AC))} : Rg.arr o t s LL.length (fun i => (LL.getD i (0, [])).1) (fun i => (LL.getD i (0, [])).2.length) (fun i k => (LL.getD i (0, [])).2.getD k []) = .rows o t s LL := Eq.trans rfl rfl
/-- the bytes of a row -/
theorem row_bytes {L : List UInt8} {j : Nat} (h : j < L.length) : (L.map enc).getD j [] = [.int .u8 (L.getD j 0).toNat] := by
  rw [getD_enc L j h, enc_u8, getD_lt L j default 0 h]
end Go.Eng

namespace Go.Eng
open Cel (enc dec)
def bytes (l : List UInt8) : ByteArray := ⟨l.toArray⟩
theorem bytes_size (l : List UInt8) : (bytes l).size = l.length := by simp [bytes, ByteArray.size]
theorem bytes_inj {l m : List UInt8} : bytes l = bytes m ↔ l = m := by
  constructor
  · intro h
    have := congrArg ByteArray.data h
    simpa [bytes] using this
  · rintro rfl; rfl
theorem bytes_data (s : ByteArray) : bytes s.data.toList = s := by
  obtain ⟨d⟩ := s
  simp [bytes]
theorem bytes_append (l m : List UInt8) : bytes l ++ bytes m = bytes (l ++ m) := by
  have h : (bytes l ++ bytes m).data = (bytes (l ++ m)).data := by
    rw [ByteArray.data_append]; simp [bytes]
  cases h1 : bytes l ++ bytes m
  cases h2 : bytes (l ++ m)
  rw [h1, h2] at h
  simp only at h
  rw [h]
theorem bytes_extract (l : List UInt8) (i j : Nat) : (bytes l).extract i j = bytes ((l.drop i).take (j - i)) := by
  have h : ((bytes l).extract i j).data = (bytes ((l.drop i).take (j - i))).data := by
    rw [ByteArray.data_extract]; simp [bytes]
  cases h1 : (bytes l).extract i j
  cases h2 : bytes ((l.drop i).take (j - i))
  rw [h1, h2] at h
  simp only at h
  rw [h]
theorem bytes_nil : bytes [] = ByteArray.empty := rfl
end Go.Eng

namespace Go.Eng
open Cel (enc dec)
open Go.ChangeShapes Go.WideShapes Go.ChangeAt Go.RowKit

/-- a cell's kind -/
inductive Kd where
  | int | bool | str | u8
def Kd.Is : Kd → AC → Prop
  | .int, c => ∃ n, c = .int .i64 n ∧ -9223372036854775808 ≤ n ∧ n ≤ 9223372036854775807
  | .bool, c => ∃ b, c = .bool b
  | .str, c => ∃ s, c = .str s ∧ s.size ≤ 9223372036854775807
  | .u8, c => ∃ n : UInt8, c = .int .u8 n.toNat
def HasK : List Kd → List AC → Prop
  | [], [] => True
  | k :: ks, c :: cs => k.Is c ∧ HasK ks cs
  | _, _ => False
theorem HasK.length : ∀ {ks : List Kd} {cs : List AC}, HasK ks cs → cs.length = ks.length
  | [], [], _ => rfl
  | _ :: _, _ :: _, h => by simp [HasK.length h.2]
  | [], _ :: _, h => h.elim
  | _ :: _, [], h => h.elim

def kd1 (P : Program) (t : TypeId) : Option Kd :=
  match P.underlying t with
  | some (.int .i64) => some .int
  | some (.int .u8) => some .u8
  | some .bool => some .bool
  | some .string => some .str
  | _ => none
def fieldsK (P : Program) : List Field → Nat → Option (List Kd)
  | [], _ => some []
  | f :: r, off => if f.offset = off ∧ P.cellsOf f.type = 1 then match kd1 P f.type, fieldsK P r (off + 1) with
    | some k, some ks => some (k :: ks)
    | _, _ => none
    else none
def kindsP (P : Program) (t : TypeId) : Option (List Kd) :=
  match kd1 P t with
  | some k => if P.cellsOf t = 1 then some [k] else none
  | none => match P.underlying t with
    | some (.struct fs) => match fieldsK P fs.toList 0 with
      | some ks => if P.cellsOf t = ks.length then some ks else none
      | none => none
    | _ => none

section
variable {H : Type} {enc : TypeId × Value → H} {P : Program} {w : World} {base : Nat} {spare : Nat → Bool} {held : Bool}

theorem kd1_open {t : TypeId} {k : Kd} {fuel : Nat} {cs : List Value} {x : DataW H × List MemPlace} (hk : kd1 P t = some k) (h : DataW.trod enc P w base spare held fuel t cs = some x) :
    ∃ c v, k.Is c ∧ cs = [v] ∧ ∀ ρ, c.Is ρ v := by
  unfold kd1 at hk
  split at hk
  · rename_i hu
    obtain rfl := Option.some.inj hk
    obtain ⟨n, rfl, _, hw⟩ := DataW.trod_int hu h
    have hb := bounds_i64 hw
    exact ⟨.int .i64 n, _, ⟨n, rfl, hb⟩, rfl, fun _ => rfl⟩
  · rename_i hu
    obtain rfl := Option.some.inj hk
    obtain ⟨n, rfl, _, hw⟩ := DataW.trod_int hu h
    have hb := bounds_u8 hw
    refine ⟨.int .u8 n, _, ⟨UInt8.ofNat n.toNat, ?_⟩, rfl, fun _ => rfl⟩
    have : (UInt8.ofNat n.toNat).toNat = n.toNat := by simp; omega
    rw [this]; congr 1; omega
  · rename_i hu
    obtain rfl := Option.some.inj hk
    obtain ⟨b, rfl, _⟩ := DataW.trod_bool hu h
    exact ⟨.bool b, _, ⟨b, rfl⟩, rfl, fun _ => rfl⟩
  · rename_i hu
    obtain rfl := Option.some.inj hk
    obtain ⟨s, rfl, _, hs⟩ := DataW.trod_string hu h
    exact ⟨.str s, _, ⟨s, rfl, by unfold maxLen at hs; omega⟩, rfl, fun _ => rfl⟩
  · cases hk

theorem fieldsK_open {cs : List Value} : ∀ {fs : List Field} {off : Nat} {ks : List Kd}, fieldsK P fs off = some ks →
    (∀ (i : Nat) (f : Field), fs[i]? = some f → ∃ n y, DataW.trod enc P w base spare held n f.type ((cs.drop f.offset).take (P.cellsOf f.type)) = some y) →
    ∃ acs, HasK ks acs ∧ ∀ ρ, Cells ρ acs ((cs.drop off).take ks.length)
  | [], off, ks, hk, _ => by
    simp only [fieldsK, Option.some.injEq] at hk
    subst hk
    exact ⟨[], trivial, fun _ => by simp [Cells]⟩
  | f :: r, off, ks, hk, h => by
    simp only [fieldsK] at hk
    split at hk
    · rename_i hf
      obtain ⟨hf1, hf2⟩ := hf
      split at hk
      · rename_i k ks' h1 h2
        obtain rfl := Option.some.inj hk
        obtain ⟨n, y, hy⟩ := h 0 f rfl
        obtain ⟨c, v, c1, c2, c3⟩ := kd1_open h1 hy
        obtain ⟨acs, a1, a2⟩ := fieldsK_open (fs := r) h2 fun i g hg => h (i + 1) g hg
        refine ⟨c :: acs, ⟨c1, a1⟩, fun ρ => ?_⟩
        rw [hf1, hf2] at c2
        have hlt : off < cs.length := by
          rcases Nat.lt_or_ge off cs.length with hh | hh
          · exact hh
          · rw [List.drop_eq_nil_of_le hh] at c2; simp at c2
        rw [List.drop_eq_getElem_cons hlt] at c2 ⊢
        simp only [List.take_succ_cons, List.take_zero, List.cons.injEq, and_true] at c2
        rw [List.length_cons, List.take_succ_cons, c2]
        exact ⟨c3 ρ, a2 ρ⟩
      · cases hk
    · cases hk

theorem kinds_open {t : TypeId} {ks : List Kd} {fuel : Nat} {cs : List Value} {x : DataW H × List MemPlace} (hk : kindsP P t = some ks) (h : DataW.trod enc P w base spare held fuel t cs = some x) :
    P.cellsOf t = ks.length ∧ ∃ acs, HasK ks acs ∧ ∀ ρ, Cells ρ acs cs := by
  unfold kindsP at hk
  split at hk
  · rename_i k h1
    split at hk
    · rename_i hc
      obtain rfl := Option.some.inj hk
      obtain ⟨c, v, c1, rfl, c3⟩ := kd1_open h1 h
      exact ⟨hc, [c], ⟨c1, trivial⟩, fun ρ => ⟨c3 ρ, trivial⟩⟩
    · cases hk
  · split at hk
    · rename_i fs hu
      split at hk
      · rename_i ks' hks
        split at hk
        · rename_i hc
          obtain rfl := Option.some.inj hk
          obtain ⟨xs, n, _, _, hcl, hxl, hall⟩ := DataW.trod_struct hu h
          obtain ⟨acs, a1, a2⟩ := fieldsK_open (cs := cs) (enc := enc) (w := w) (base := base) (spare := spare) (held := held) hks fun i f hf => by
            have hf' : fs[i]? = some f := by simpa using hf
            have hi : i < xs.length := by rw [hxl]; exact (Array.getElem?_eq_some_iff.1 hf').1
            refine ⟨n, xs[i], ?_⟩
            rw [hall i f hf', List.getElem?_eq_getElem hi]
          refine ⟨hc, acs, a1, fun ρ => ?_⟩
          have := a2 ρ
          rwa [List.drop_zero, List.take_of_length_le (by omega)] at this
        · cases hk
      · cases hk
    · cases hk

/-- A SLICE OF PLAIN DATA. -/
theorem slice_open {t e : TypeId} {ks : List Kd} {fuel : Nat} {cs : List Value} {x : DataW H × List MemPlace} (ht : P.underlying t = some (.slice e)) (hk : kindsP P e = some ks) (hk0 : 0 < ks.length)
    (h : DataW.trod enc P w base (fun _ => true) held fuel t cs = some x) :
    ∃ (o : Option Addr) (len cap : Nat) (L : List (List AC)), cs = [.slice o len cap] ∧ len ≤ cap ∧ cap ≤ 9223372036854775807 ∧ L.length = len ∧ (∀ acs ∈ L, HasK ks acs) ∧ (0 < cap → ∃ b off, o = some ⟨b, off, none⟩) ∧
      ∀ b off, o = some ⟨b, off, none⟩ → ∀ k, k < len → ∀ (f : Nat) (c : AC), (L.getD k [])[f]? = some c → ∃ v, w.cell? ⟨b, off + (k * ks.length + f), none⟩ = some v ∧ ∀ ρ, c.Is ρ v := by
  rcases Deep.open_slice ht h with ⟨rfl, _⟩ | ⟨a, len, cap, m, n, D, Pl, rfl, _, hlc, hcm, hm, _, hel⟩
  · exact ⟨none, 0, 0, [], rfl, Nat.le_refl _, by omega, rfl, fun _ h => by simp at h, fun h => absurd h (by omega), fun b off h => by cases h⟩
  · have hlm : len ≤ m := by rw [hm]; split <;> omega
    have hone : ∀ i, i < len → ∃ acs : List AC, HasK ks acs ∧ ∀ (f : Nat) (c : AC), acs[f]? = some c → ∃ v, w.cell? ((a.add (i * ks.length)).add f) = some v ∧ ∀ ρ, c.Is ρ v := by
      intro i hi
      obtain ⟨cs', h1, h2⟩ := hel i (by omega)
      obtain ⟨hc, acs, a1, a2⟩ := kinds_open hk h2
      refine ⟨acs, a1, fun f c hf => ?_⟩
      rw [hc] at h1
      obtain ⟨_, hlen, hcell⟩ := World.cells?_some h1
      obtain ⟨v, hv, _⟩ := (a2 ⟨fun _ _ => 0, fun _ _ => 0, fun _ => 0⟩).get f c hf
      refine ⟨v, ?_, fun ρ => ?_⟩
      · have hf' : f < ks.length := by
          have := (List.getElem?_eq_some_iff.1 hf).1
          rwa [a1.length] at this
        have := hcell f hf'
        rw [hv] at this
        exact this
      · obtain ⟨v', hv', hI⟩ := (a2 ρ).get f c hf
        rw [hv] at hv'
        obtain rfl := Option.some.inj hv'
        exact hI
    obtain ⟨F, hF⟩ := Deep.choose_lt (α := List AC) hone
    have hcm' : cap ≤ 9223372036854775807 := by unfold maxLen at hcm; omega
    have hget : ∀ k, k < len → ((List.range len).map F).getD k [] = F k := fun k hk => by simp [List.getD_eq_getElem?_getD, hk]
    refine ⟨some a, len, cap, (List.range len).map F, rfl, hlc, hcm', by simp, fun acs hac => ?_, fun hc => ?_, fun b off hb k hk f c hf => ?_⟩
    · obtain ⟨i, hi, rfl⟩ := List.mem_map.1 hac
      exact (hF i (by simpa using hi)).1
    · have hmc : m = cap := by rw [hm, if_pos rfl]
      obtain ⟨cs', h1, h2⟩ := hel 0 (by omega)
      obtain ⟨hcc, _⟩ := kinds_open hk h2
      obtain ⟨_, _, hcell⟩ := World.cells?_some h1
      have := hcell 0 (by omega)
      obtain ⟨b, off, sp⟩ := a
      cases sp with
      | none => exact ⟨b, off, rfl⟩
      | some q =>
        exfalso
        have hlen : cs'.length = P.cellsOf e := (World.cells?_some h1).2.1
        rw [List.getElem?_eq_getElem (by omega)] at this
        simp only [Addr.add, Nat.zero_mul, if_true, World.cell?] at this
        split at this
        · simp at this
        · cases this
    · obtain rfl := Option.some.inj hb
      rw [hget k hk] at hf
      obtain ⟨v, hv, hI⟩ := (hF k hk).2 f c hf
      refine ⟨v, ?_, hI⟩
      rw [Addr.add_lit, Addr.add_lit, Nat.add_assoc] at hv
      exact hv
end
end Go.Eng

namespace Go.Eng
open Cel (enc dec)
open Go.ChangeShapes Go.WideShapes Go.ChangeAt Go.RowKit

/-- a cell of an argument: plain, or a slice of plain data -/
inductive Shp where
  | k (k : Kd)
  | sl (ty : TypeId) (ks : List Kd)
  | ss (ty ty2 : TypeId) (ks : List Kd)
abbrev Ad := (Nat → Nat) × (Nat → Nat) × Nat

def Opn (w : World) : Nat → List Shp → List Value → List AC → List Rg → List Ad → Prop
  | _, [], cs, acs, regs, as => cs = [] ∧ acs = [] ∧ regs = [] ∧ as = []
  | m, .k k :: r, cs, acs, regs, as => ∃ v cs' c acs', cs = v :: cs' ∧ acs = c :: acs' ∧ k.Is c ∧ (∀ ρ, c.Is ρ v) ∧ Opn w m r cs' acs' regs as
  | m, .sl ty ks :: r, cs, acs, regs, as => ∃ (o : Option Addr) (len cap : Nat) (L : List (List AC)) (b off : Nat) (cs' : List Value) (acs' : List AC) (regs' : List Rg) (as' : List Ad),
      cs = .slice o len cap :: cs' ∧ acs = .sl ⟨.loc m, 0, 0, 0⟩ len cap :: acs' ∧ regs = .rows false ty ks.length [(len, L)] :: regs' ∧ as = (fun _ => b, fun _ => off, ks.length) :: as' ∧
      len ≤ cap ∧ cap ≤ 9223372036854775807 ∧ L.length = len ∧ (∀ acs ∈ L, HasK ks acs) ∧ (0 < cap → o = some ⟨b, off, none⟩) ∧ 0 < ks.length ∧
      (∀ k, k < len → ∀ (f : Nat) (c : AC), (L.getD k [])[f]? = some c → ∃ v, w.cell? ⟨b, off + (k * ks.length + f), none⟩ = some v ∧ ∀ ρ, c.Is ρ v) ∧
      Opn w (m + 1) r cs' acs' regs' as'
  | m, .ss ty ty2 ks :: r, cs, acs, regs, as => ∃ (o : Option Addr) (len cap : Nat) (G : List (Nat × List (List AC))) (b off : Nat) (bI oI : Nat → Nat) (cs' : List Value) (acs' : List AC) (regs' : List Rg) (as' : List Ad),
      cs = .slice o len cap :: cs' ∧ acs = .sl ⟨.loc m, 0, 0, 0⟩ len cap :: acs' ∧ regs = .rows false ty 1 [(len, nestC (.loc (m + 1)) G)] :: .rows false ty2 ks.length (G.map fun p => (p.2.length, p.2)) :: regs' ∧ as = (fun _ => b, fun _ => off, 1) :: (bI, oI, ks.length) :: as' ∧
      len ≤ cap ∧ cap ≤ 9223372036854775807 ∧ G.length = len ∧ (∀ p ∈ G, p.2.length ≤ p.1 ∧ p.1 ≤ 9223372036854775807 ∧ ∀ acs ∈ p.2, HasK ks acs) ∧ (0 < cap → o = some ⟨b, off, none⟩) ∧ 0 < ks.length ∧
      (∀ i, i < len → ∃ oi, w.cell? ⟨b, off + i, none⟩ = some (.slice oi (G.getD i (0, [])).2.length (G.getD i (0, [])).1) ∧ (0 < (G.getD i (0, [])).1 → oi = some ⟨bI i, oI i, none⟩) ∧
        ∀ k, k < (G.getD i (0, [])).2.length → ∀ (f : Nat) (c : AC), ((G.getD i (0, [])).2.getD k [])[f]? = some c → ∃ v, w.cell? ⟨bI i, oI i + (k * ks.length + f), none⟩ = some v ∧ ∀ ρ, c.Is ρ v) ∧
      Opn w (m + 2) r cs' acs' regs' as'

theorem Opn_mem {w : World} : ∀ {shs : List Shp} {m : Nat} {cs : List Value} {acs : List AC} {regs : List Rg} {as : List Ad}, Opn w m shs cs acs regs as → ∀ ρ : Env,
    (∀ j a, as[j]? = some a → ρ.blk (.loc (m + j)) = a.1 ∧ ρ.base (.loc (m + j)) = a.2.1 ∧ ρ.sz (.loc (m + j)) = a.2.2) →
    Cells ρ acs cs ∧ regs.length = as.length ∧ ∀ (j : Nat) g, regs[j]? = some g → RegOk ρ (.loc (m + j)) w g ∧ g.own = false ∧ ∀ i, g.has i → ρ.blk (.loc (m + j)) i < w.heap.size
  | [], m, cs, acs, regs, as, h, ρ, _ => by
    obtain ⟨rfl, rfl, rfl, rfl⟩ := h
    exact ⟨trivial, rfl, fun j g e => by simp at e⟩
  | .k k :: r, m, cs, acs, regs, as, h, ρ, hρ => by
    obtain ⟨v, cs', c, acs', rfl, rfl, _, hI, h⟩ := h
    obtain ⟨h1, h2, h3⟩ := Opn_mem h ρ hρ
    exact ⟨⟨hI ρ, h1⟩, h2, h3⟩
  | .sl ty ks :: r, m, cs, acs, regs, as, h, ρ, hρ => by
    obtain ⟨o, len, cap, L, b, off, cs', acs', regs', as', rfl, rfl, rfl, rfl, hlc, hcm, hL, hK, ho, hk0, hcell, h⟩ := h
    obtain ⟨h1, h2, h3⟩ := Opn_mem h ρ fun j a e => by
      have := hρ (j + 1) a (by simpa using e)
      rwa [show m + (j + 1) = m + 1 + j by omega] at this
    obtain ⟨e1, e2, e3⟩ := hρ 0 _ rfl
    rw [Nat.add_zero] at e1 e2 e3
    refine ⟨⟨⟨o, rfl, hlc, fun hc => ?_⟩, h1⟩, by simp [h2], fun j g e => ?_⟩
    · rw [ho hc]
      simp [AA.conc, e1, e2]
    · cases j with
      | zero =>
        simp at e
        subst e
        rw [Nat.add_zero]
        have hreg : ∀ k, k < len → (L.getD k []).length = ks.length ∧ ∀ (f : Nat) (c : AC), (L.getD k [])[f]? = some c → ∃ v, w.cell? ⟨b, off + (k * ks.length + f), none⟩ = some v ∧ c.Is ρ v := by
          intro k hk
          refine ⟨?_, fun f c hf => ?_⟩
          · rw [List.getD_eq_getElem?_getD, List.getElem?_eq_getElem (by omega), Option.getD_some]
            exact (hK _ (List.getElem_mem _)).length
          · obtain ⟨v, hv, hI⟩ := hcell k hk f c hf
            exact ⟨v, hv, hI ρ⟩
        refine ⟨⟨e3, fun i hi => ?_⟩, rfl, fun i hi => ?_⟩
        · have hi : i < 1 := hi
          obtain rfl : i = 0 := by omega
          refine ⟨Nat.le_of_eq hL, fun k hk => ?_, fun h => by cases h⟩
          have hk : k < len := by rw [← hL]; exact hk
          refine ⟨(hreg k hk).1, fun f c hf => ?_⟩
          obtain ⟨v, hv, hI⟩ := (hreg k hk).2 f c hf
          exact ⟨v, by rw [e1, e2]; exact hv, hI⟩
        · obtain ⟨hi1, hi2⟩ := hi
          have hi1 : i < 1 := hi1
          obtain rfl : i = 0 := by omega
          have hi2 : 0 < len := hi2
          obtain ⟨hl, hc⟩ := hreg 0 hi2
          obtain ⟨v, hv, _⟩ := hc 0 _ (List.getElem?_eq_getElem (by omega))
          rw [e1]
          exact World.block_lt_of_cell? w _ hv
      | succ j =>
        have := h3 j g (by simpa using e)
        rwa [show m + 1 + j = m + (j + 1) by omega] at this
  | .ss ty ty2 ks :: r, m, cs, acs, regs, as, h, ρ, hρ => by
    obtain ⟨o, len, cap, G, b, off, bI, oI, cs', acs', regs', as', rfl, rfl, rfl, rfl, hlc, hcm, hG, hK, ho, hk0, hcell, h⟩ := h
    obtain ⟨h1, h2, h3⟩ := Opn_mem h ρ fun j a e => by
      have := hρ (j + 2) a (by simpa using e)
      rwa [show m + (j + 2) = m + 2 + j by omega] at this
    obtain ⟨e1, e2, e3⟩ := hρ 0 _ rfl
    obtain ⟨g1, g2, g3⟩ := hρ 1 _ rfl
    rw [Nat.add_zero] at e1 e2 e3
    have hGd : ∀ i, i < G.length → G[i]? = some (G.getD i (0, [])) := fun i hi => by
      rw [List.getD_eq_getElem?_getD, List.getElem?_eq_getElem hi]; rfl
    have hGm : ∀ i, i < G.length → G.getD i (0, []) ∈ G := fun i hi => List.mem_of_getElem? (hGd i hi)
    refine ⟨⟨⟨o, rfl, hlc, fun hc => ?_⟩, h1⟩, by simp [h2], fun j g e => ?_⟩
    · rw [ho hc]
      simp [AA.conc, e1, e2]
    · match j, e with
      | 0, e =>
        simp at e
        subst e
        rw [Nat.add_zero]
        refine ⟨⟨e3, fun i hi => ?_⟩, rfl, fun i hi => ?_⟩
        · have hi : i < 1 := hi
          obtain rfl : i = 0 := by omega
          refine ⟨(by show (nestC _ G).length ≤ len; rw [nest_len]; omega), fun k hk => ?_, fun h => by cases h⟩
          have hk : k < G.length := by have : k < (nestC (.loc (m + 1)) G).length := hk; rwa [nest_len] at this
          have hgk : (nestC (.loc (m + 1)) G).getD k [] = [.sl ⟨.loc (m + 1), k, 0, 0⟩ (G.getD k (0, [])).2.length (G.getD k (0, [])).1] := by
            rw [List.getD_eq_getElem?_getD, nest_getq, hGd k hk]; rfl
          obtain ⟨oi, c1, c2, _⟩ := hcell k (by omega)
          show ((nestC (.loc (m + 1)) G).getD k []).length = 1 ∧ ∀ (f : Nat) (c : AC), ((nestC (.loc (m + 1)) G).getD k [])[f]? = some c → _
          rw [hgk]
          refine ⟨rfl, fun f c hf => ?_⟩
          match f, hf with
          | 0, hf =>
            simp at hf
            subst hf
            refine ⟨_, (by rw [e1, e2, Nat.mul_one, Nat.add_zero]; exact c1), oi, rfl, (hK _ (hGm k hk)).1, fun h => ?_⟩
            rw [c2 h]
            simp [AA.conc, g1, g2]
          | f + 1, hf => simp at hf
        · obtain ⟨hi1, hi2⟩ := hi
          have hi1 : i < 1 := hi1
          obtain rfl : i = 0 := by omega
          have hi2 : 0 < len := hi2
          obtain ⟨oi, c1, _⟩ := hcell 0 hi2
          rw [e1]
          exact World.block_lt_of_cell? w _ c1
      | 1, e =>
        simp at e
        subst e
        have hGl : ∀ i, ((G.map fun p : Nat × List (List AC) => (p.2.length, p.2)).getD i (0, [])) = ((G.getD i (0, [])).2.length, (G.getD i (0, [])).2) := fun i => by
          rw [List.getD_eq_getElem?_getD, List.getElem?_map, List.getD_eq_getElem?_getD]
          cases G[i]? <;> rfl
        have hreg : ∀ i, i < G.length → ∀ k, k < (G.getD i (0, [])).2.length → ((G.getD i (0, [])).2.getD k []).length = ks.length ∧ ∀ (f : Nat) (c : AC), ((G.getD i (0, [])).2.getD k [])[f]? = some c → ∃ v, w.cell? ⟨bI i, oI i + (k * ks.length + f), none⟩ = some v ∧ c.Is ρ v := by
          intro i hi k hk
          obtain ⟨_, _, _, c3⟩ := hcell i (by omega)
          refine ⟨?_, fun f c hf => ?_⟩
          · rw [List.getD_eq_getElem?_getD, List.getElem?_eq_getElem hk, Option.getD_some]
            exact ((hK _ (hGm i hi)).2.2 _ (List.getElem_mem _)).length
          · obtain ⟨v, hv, hI⟩ := c3 k hk f c hf
            exact ⟨v, hv, hI ρ⟩
        refine ⟨⟨g3, fun i hi => ?_⟩, rfl, fun i hi => ?_⟩
        · have hi : i < G.length := by simpa using hi
          simp only [hGl]
          refine ⟨Nat.le_refl _, fun k hk => ⟨(hreg i hi k hk).1, fun f c hf => ?_⟩, fun h => by cases h⟩
          obtain ⟨v, hv, hI⟩ := (hreg i hi k hk).2 f c hf
          exact ⟨v, by rw [g1, g2]; exact hv, hI⟩
        · obtain ⟨hi1, hi2⟩ := hi
          have hi1 : i < G.length := by simpa using hi1
          have hi2 : 0 < ((G.map fun p : Nat × List (List AC) => (p.2.length, p.2)).getD i (0, [])).1 := hi2
          rw [hGl] at hi2
          obtain ⟨hl, hc⟩ := hreg i hi1 0 hi2
          obtain ⟨v, hv, _⟩ := hc 0 _ (List.getElem?_eq_getElem (by omega))
          rw [g1]
          exact World.block_lt_of_cell? w _ hv
      | j + 2, e =>
        have := h3 j g (by simpa using e)
        rwa [show m + 2 + j = m + (j + 2) by omega] at this

def locM (regs : List Rg) : RId → Option Rg
  | .loc j => regs[j]?
  | _ => none
def envOf (as : List Ad) : Env := ⟨fun x i => match x with | .loc j => ((as[j]?).map fun a => a.1 i).getD 0 | _ => 0, fun x i => match x with | .loc j => ((as[j]?).map fun a => a.2.1 i).getD 0 | _ => 0, fun x => match x with | .loc j => ((as[j]?).map fun a => a.2.2).getD 0 | _ => 0⟩

theorem opn_all {w : World} {shs : List Shp} {cs : List Value} {acs : List AC} {regs : List Rg} {as : List Ad} (h : Opn w 0 shs cs acs regs as) : ∀ ρ, Agree (locM regs) (envOf as) ρ → MemOk (fun _ => False) w.heap.size ρ (locM regs) w ∧ Cells ρ acs cs := by
  intro ρ hρ
  have hl := (Opn_mem h (envOf as) fun j a e => by simp [envOf, e]).2.1
  obtain ⟨h1, _, h3⟩ := Opn_mem h ρ fun j a e => by
    have hj := (List.getElem?_eq_some_iff.1 e).1
    have := hρ (.loc j) regs[j] (by simp [locM])
    rw [Nat.zero_add]
    exact ⟨funext fun i => by rw [← this.blk]; simp [envOf, e], funext fun i => by rw [← this.base]; simp [envOf, e], by rw [← this.sz]; simp [envOf, e]⟩
  have hr : ∀ x g, locM regs x = some g → RegOk ρ x w g ∧ g.own = false ∧ ∀ i, g.has i → ρ.blk x i < w.heap.size := by
    intro x g e
    cases x with
    | loc j =>
      have := h3 j g e
      rwa [Nat.zero_add] at this
    | out y => cases e
    | nil => cases e
  refine ⟨⟨fun x g e => (hr x g e).1, fun x g i x' g' i' e ho => ?_, fun x g i e ho => ?_, fun x g i e hh => (hr x g e).2.2 i hh⟩, h1⟩
  · rw [(hr x g e).2.1] at ho; cases ho
  · rw [(hr x g e).2.1] at ho; cases ho

/-! ### from the types -/
def shp0 (P : Program) (t : TypeId) : Option Shp :=
  match kd1 P t with
  | some k => some (.k k)
  | none => match P.underlying t with
    | some (.slice e) => match kindsP P e with
      | some (k :: ks) => some (.sl e (k :: ks))
      | _ => none
    | _ => none
def fieldsG (P : Program) (sh : TypeId → Option Shp) : List Field → Nat → Option (List Shp)
  | [], _ => some []
  | f :: r, off => if f.offset = off ∧ P.cellsOf f.type = 1 then match sh f.type, fieldsG P sh r (off + 1) with
    | some k, some ks => some (k :: ks)
    | _, _ => none
    else none
def structG (P : Program) (sh : TypeId → Option Shp) (t : TypeId) : Option (List Shp) :=
  match P.underlying t with
  | some (.struct fs) => match fieldsG P sh fs.toList 0 with
    | some ks => if P.cellsOf t = ks.length then some ks else none
    | none => none
  | _ => none
/-- one cell that is a slice of plain data -/
def shpE (P : Program) (e : TypeId) : Option (TypeId × List Kd) :=
  if P.cellsOf e = 1 then match shp0 P e with
    | some (.sl ty ks) => some (ty, ks)
    | _ => match structG P (shp0 P) e with
      | some [.sl ty ks] => some (ty, ks)
      | _ => none
  else none
def shp1 (P : Program) (t : TypeId) : Option Shp :=
  match shp0 P t with
  | some s => some s
  | none => match P.underlying t with
    | some (.slice e) => match shpE P e with
      | some (ty2, ks) => some (.ss e ty2 ks)
      | none => none
    | _ => none
def structS (P : Program) (t : TypeId) : Option (List Shp) := structG P (shp1 P) t

/-- what a cell of an argument must be -/
def CellOk (w : World) : Shp → Value → Prop
  | .k k, v => ∃ c, k.Is c ∧ ∀ ρ, c.Is ρ v
  | .sl _ ks, v => ∃ (o : Option Addr) (len cap : Nat) (L : List (List AC)) (b off : Nat), v = .slice o len cap ∧
      len ≤ cap ∧ cap ≤ 9223372036854775807 ∧ L.length = len ∧ (∀ acs ∈ L, HasK ks acs) ∧ (0 < cap → o = some ⟨b, off, none⟩) ∧ 0 < ks.length ∧
      (∀ k, k < len → ∀ (f : Nat) (c : AC), (L.getD k [])[f]? = some c → ∃ v, w.cell? ⟨b, off + (k * ks.length + f), none⟩ = some v ∧ ∀ ρ, c.Is ρ v)
  | .ss _ _ ks, v => ∃ (o : Option Addr) (len cap : Nat) (G : List (Nat × List (List AC))) (b off : Nat) (bI oI : Nat → Nat), v = .slice o len cap ∧
      len ≤ cap ∧ cap ≤ 9223372036854775807 ∧ G.length = len ∧ (∀ p ∈ G, p.2.length ≤ p.1 ∧ p.1 ≤ 9223372036854775807 ∧ ∀ acs ∈ p.2, HasK ks acs) ∧ (0 < cap → o = some ⟨b, off, none⟩) ∧ 0 < ks.length ∧
      (∀ i, i < len → ∃ oi, w.cell? ⟨b, off + i, none⟩ = some (.slice oi (G.getD i (0, [])).2.length (G.getD i (0, [])).1) ∧ (0 < (G.getD i (0, [])).1 → oi = some ⟨bI i, oI i, none⟩) ∧
        ∀ k, k < (G.getD i (0, [])).2.length → ∀ (f : Nat) (c : AC), ((G.getD i (0, [])).2.getD k [])[f]? = some c → ∃ v, w.cell? ⟨bI i, oI i + (k * ks.length + f), none⟩ = some v ∧ ∀ ρ, c.Is ρ v)
def CellsOk (w : World) : List Shp → List Value → Prop
  | [], [] => True
  | s :: r, v :: vs => CellOk w s v ∧ CellsOk w r vs
  | _, _ => False

section
variable {H : Type} {enc : TypeId × Value → H} {P : Program} {w : World} {base : Nat} {held : Bool}

theorem shp0_open {t : TypeId} {s : Shp} {fuel : Nat} {cs : List Value} {x : DataW H × List MemPlace} (hk : shp0 P t = some s) (h : DataW.trod enc P w base (fun _ => true) held fuel t cs = some x) : ∃ v, cs = [v] ∧ CellOk w s v := by
  unfold shp0 at hk
  split at hk
  · rename_i k h1
    obtain rfl := Option.some.inj hk
    obtain ⟨c, v, c1, rfl, c3⟩ := kd1_open h1 h
    exact ⟨v, rfl, c, c1, c3⟩
  · split at hk
    · rename_i e hu
      split at hk
      · rename_i k ks hks
        obtain rfl := Option.some.inj hk
        obtain ⟨o, len, cap, L, rfl, h1, h2, h3, h4, h5, h6⟩ := slice_open hu hks (by simp) h
        have hb : ∃ b off, 0 < cap → o = some ⟨b, off, none⟩ := by
          by_cases hc : 0 < cap
          · obtain ⟨b, off, e⟩ := h5 hc; exact ⟨b, off, fun _ => e⟩
          · exact ⟨0, 0, fun h => absurd h hc⟩
        obtain ⟨b, off, hbo⟩ := hb
        exact ⟨_, rfl, o, len, cap, L, b, off, rfl, h1, h2, h3, h4, hbo, by simp, fun k hk => h6 b off (hbo (by omega)) k hk⟩
      · cases hk
    · cases hk
theorem fieldsG_open {sh : TypeId → Option Shp} (hsh : ∀ {t : TypeId} {s : Shp} {fuel : Nat} {cs : List Value} {x : DataW H × List MemPlace}, sh t = some s → DataW.trod enc P w base (fun _ => true) held fuel t cs = some x → ∃ v, cs = [v] ∧ CellOk w s v) {cs : List Value} : ∀ {fs : List Field} {off : Nat} {ks : List Shp}, fieldsG P sh fs off = some ks →
    (∀ (i : Nat) (f : Field), fs[i]? = some f → ∃ n y, DataW.trod enc P w base (fun _ => true) held n f.type ((cs.drop f.offset).take (P.cellsOf f.type)) = some y) →
    CellsOk w ks ((cs.drop off).take ks.length)
  | [], off, ks, hk, _ => by
    simp only [fieldsG, Option.some.injEq] at hk
    subst hk
    simp [CellsOk]
  | f :: r, off, ks, hk, h => by
    simp only [fieldsG] at hk
    split at hk
    · rename_i hf
      obtain ⟨hf1, hf2⟩ := hf
      split at hk
      · rename_i k ks' h1 h2
        obtain rfl := Option.some.inj hk
        obtain ⟨n, y, hy⟩ := h 0 f rfl
        obtain ⟨v, c2, c3⟩ := hsh h1 hy
        have a2 := fieldsG_open hsh (fs := r) h2 fun i g hg => h (i + 1) g hg
        rw [hf1, hf2] at c2
        have hlt : off < cs.length := by
          rcases Nat.lt_or_ge off cs.length with hh | hh
          · exact hh
          · rw [List.drop_eq_nil_of_le hh] at c2; simp at c2
        rw [List.drop_eq_getElem_cons hlt] at c2 ⊢
        simp only [List.take_succ_cons, List.take_zero, List.cons.injEq, and_true] at c2
        rw [List.length_cons, List.take_succ_cons, c2]
        exact ⟨c3, a2⟩
      · cases hk
    · cases hk
theorem structG_open {sh : TypeId → Option Shp} (hsh : ∀ {t : TypeId} {s : Shp} {fuel : Nat} {cs : List Value} {x : DataW H × List MemPlace}, sh t = some s → DataW.trod enc P w base (fun _ => true) held fuel t cs = some x → ∃ v, cs = [v] ∧ CellOk w s v) {t : TypeId} {ks : List Shp} {fuel : Nat} {cs : List Value} {x : DataW H × List MemPlace} (hk : structG P sh t = some ks) (h : DataW.trod enc P w base (fun _ => true) held fuel t cs = some x) : CellsOk w ks cs := by
  unfold structG at hk
  split at hk
  · rename_i fs hu
    split at hk
    · rename_i ks' hks
      split at hk
      · rename_i hc
        obtain rfl := Option.some.inj hk
        obtain ⟨xs, n, _, _, hcl, hxl, hall⟩ := DataW.trod_struct hu h
        have := fieldsG_open hsh (cs := cs) (enc := enc) (w := w) (base := base) (held := held) hks fun i f hf => by
          have hf' : fs[i]? = some f := by simpa using hf
          have hi : i < xs.length := by rw [hxl]; exact (Array.getElem?_eq_some_iff.1 hf').1
          refine ⟨n, xs[i], ?_⟩
          rw [hall i f hf', List.getElem?_eq_getElem hi]
        rwa [List.drop_zero, List.take_of_length_le (by omega)] at this
      · cases hk
    · cases hk
  · cases hk

theorem shpE_open {e ty : TypeId} {ks : List Kd} {fuel : Nat} {cs : List Value} {x : DataW H × List MemPlace} (hk : shpE P e = some (ty, ks)) (h : DataW.trod enc P w base (fun _ => true) held fuel e cs = some x) :
    P.cellsOf e = 1 ∧ ∃ v, cs = [v] ∧ CellOk w (.sl ty ks) v := by
  unfold shpE at hk
  split at hk
  · rename_i hc
    refine ⟨hc, ?_⟩
    split at hk
    · rename_i ty' ks' h1
      obtain ⟨rfl, rfl⟩ := Prod.mk.injEq _ _ _ _ ▸ Option.some.inj hk
      exact shp0_open h1 h
    · split at hk
      · rename_i ty' ks' h1
        obtain ⟨rfl, rfl⟩ := Prod.mk.injEq _ _ _ _ ▸ Option.some.inj hk
        have := structG_open (fun h1 h2 => shp0_open h1 h2) h1 h
        match cs, this with
        | [v], h => exact ⟨v, rfl, h.1⟩
      · cases hk
  · cases hk
theorem slice2_open {t e ty : TypeId} {ks : List Kd} {fuel : Nat} {cs : List Value} {x : DataW H × List MemPlace} (ht : P.underlying t = some (.slice e)) (hk : shpE P e = some (ty, ks)) (hk0 : 0 < ks.length)
    (h : DataW.trod enc P w base (fun _ => true) held fuel t cs = some x) : ∃ v, cs = [v] ∧ CellOk w (.ss e ty ks) v := by
  rcases Deep.open_slice ht h with ⟨rfl, _⟩ | ⟨a, len, cap, m, n, D, Pl, rfl, _, hlc, hcm, hm, _, hel⟩
  · exact ⟨_, rfl, none, 0, 0, [], 0, 0, fun _ => 0, fun _ => 0, rfl, Nat.le_refl _, by omega, rfl, fun _ h => by simp at h, fun h => absurd h (by omega), hk0, fun i hi => absurd hi (by omega)⟩
  · have hlm : len ≤ m := by rw [hm]; split <;> omega
    have hcm' : cap ≤ 9223372036854775807 := by unfold maxLen at hcm; omega
    have hmc : m = cap := by rw [hm, if_pos rfl]
    -- each element
    have hone : ∀ i, i < cap → ∃ q : Option Addr × Nat × Nat × List (List AC) × Nat × Nat, w.cell? (a.add i) = some (.slice q.1 q.2.1 q.2.2.1) ∧ q.2.1 ≤ q.2.2.1 ∧ q.2.2.1 ≤ 9223372036854775807 ∧ q.2.2.2.1.length = q.2.1 ∧ (∀ acs ∈ q.2.2.2.1, HasK ks acs) ∧ (0 < q.2.2.1 → q.1 = some ⟨q.2.2.2.2.1, q.2.2.2.2.2, none⟩) ∧
        ∀ k, k < q.2.1 → ∀ (f : Nat) (c : AC), (q.2.2.2.1.getD k [])[f]? = some c → ∃ v, w.cell? ⟨q.2.2.2.2.1, q.2.2.2.2.2 + (k * ks.length + f), none⟩ = some v ∧ ∀ ρ, c.Is ρ v := by
      intro i hi
      obtain ⟨cs', h1, h2⟩ := hel i (by omega)
      obtain ⟨hc, v, rfl, o, l, c, L, b, off, rfl, g1, g2, g3, g4, g5, g6, g7⟩ := shpE_open hk h2
      rw [hc] at h1
      obtain ⟨_, hlen, hcell⟩ := World.cells?_some h1
      have := hcell 0 (by omega)
      refine ⟨(o, l, c, L, b, off), ?_, g1, g2, g3, g4, g5, g7⟩
      rw [Nat.mul_one] at this
      exact this
    obtain ⟨F, hF⟩ := Deep.choose_lt (α := Option Addr × Nat × Nat × List (List AC) × Nat × Nat) hone
    have hb : ∃ b off, 0 < cap → a = ⟨b, off, none⟩ := by
      rcases Nat.eq_zero_or_pos cap with h0 | h0
      · exact ⟨0, 0, fun h => absurd h (by omega)⟩
      · have h1 := (hF 0 h0).1
        obtain ⟨b, off, sp⟩ := a
        cases sp with
        | none => exact ⟨b, off, fun _ => rfl⟩
        | some q =>
          exfalso
          simp only [Addr.add, World.cell?] at h1
          split at h1
          · simp at h1
          · cases h1
    obtain ⟨b, off, hab⟩ := hb
    have hget : ∀ i, i < len → ((List.range len).map fun i => ((F i).2.2.1, (F i).2.2.2.1)).getD i (0, []) = ((F i).2.2.1, (F i).2.2.2.1) := fun k hk => by simp [List.getD_eq_getElem?_getD, hk]
    refine ⟨_, rfl, some a, len, cap, (List.range len).map fun i => ((F i).2.2.1, (F i).2.2.2.1), b, off, fun i => (F i).2.2.2.2.1, fun i => (F i).2.2.2.2.2, rfl, hlc, hcm', by simp, fun p hp => ?_, fun hc => by rw [hab hc], hk0, fun i hi => ?_⟩
    · obtain ⟨i, hi, rfl⟩ := List.mem_map.1 hp
      have hi : i < len := by simpa using hi
      obtain ⟨_, g1, g2, g3, g4, _⟩ := hF i (by omega)
      exact ⟨by rw [g3]; exact g1, g2, g4⟩
    · obtain ⟨g0, g1, g2, g3, g4, g5, g6⟩ := hF i (by omega)
      rw [hget i hi]
      refine ⟨(F i).1, ?_, g5, fun k hk f c hf => g6 k (by rw [← g3]; exact hk) f c hf⟩
      rw [hab (by omega), Addr.add_lit] at g0
      rw [g0]
      show some (Value.slice _ _ _) = some (Value.slice _ (F i).2.2.2.1.length _)
      rw [g3]
theorem shp1_open {t : TypeId} {s : Shp} {fuel : Nat} {cs : List Value} {x : DataW H × List MemPlace} (hk : shp1 P t = some s) (h : DataW.trod enc P w base (fun _ => true) held fuel t cs = some x) : ∃ v, cs = [v] ∧ CellOk w s v := by
  unfold shp1 at hk
  split at hk
  · rename_i s' h1
    obtain rfl := Option.some.inj hk
    exact shp0_open h1 h
  · split at hk
    · rename_i e hu
      split at hk
      · rename_i ty2 ks hks
        obtain rfl := Option.some.inj hk
        have hk0 : 0 < ks.length := by
          unfold shpE at hks
          have h0 : ∀ {t ty ks}, shp0 P t = some (.sl ty ks) → 0 < ks.length := by
            intro t ty ks h
            unfold shp0 at h
            split at h
            · cases h
            · split at h
              · split at h
                · obtain ⟨_, rfl⟩ := Shp.sl.injEq _ _ _ _ ▸ Option.some.inj h; simp
                · cases h
              · cases h
          split at hks
          · split at hks
            · rename_i h1
              obtain ⟨_, rfl⟩ := Prod.mk.injEq _ _ _ _ ▸ Option.some.inj hks
              exact h0 h1
            · split at hks
              · rename_i h1
                obtain ⟨_, rfl⟩ := Prod.mk.injEq _ _ _ _ ▸ Option.some.inj hks
                unfold structG at h1
                split at h1
                · rename_i fs _
                  split at h1
                  · rename_i kk hf
                    split at h1
                    · obtain rfl := Option.some.inj h1
                      generalize fs.toList = l at hf
                      cases l with
                      | nil => simp [fieldsG] at hf
                      | cons f r =>
                        simp only [fieldsG] at hf
                        split at hf
                        · split at hf
                          · rename_i h3 _
                            have hf := Option.some.inj hf
                            rw [List.cons.injEq] at hf
                            rw [hf.1] at h3
                            exact h0 h3
                          · cases hf
                        · cases hf
                    · cases h1
                  · cases h1
                · cases h1
              · cases hks
          · cases hks
        exact slice2_open hu hks hk0 h
      · cases hks : shpE P e <;> simp_all
    · cases hk
theorem structS_open {t : TypeId} {ks : List Shp} {fuel : Nat} {cs : List Value} {x : DataW H × List MemPlace} (hk : structS P t = some ks) (h : DataW.trod enc P w base (fun _ => true) held fuel t cs = some x) : CellsOk w ks cs :=
  structG_open (fun h1 h2 => shp1_open h1 h2) hk h

theorem CellsOk.append : ∀ {s1 s2 : List Shp} {c1 c2 : List Value}, CellsOk w s1 c1 → CellsOk w s2 c2 → CellsOk w (s1 ++ s2) (c1 ++ c2)
  | [], _, [], _, _, k => k
  | _ :: _, _, _ :: _, _, h, k => ⟨h.1, CellsOk.append h.2 k⟩
  | [], _, _ :: _, _, h, _ => h.elim
  | _ :: _, _, [], _, h, _ => h.elim
theorem CellsOk.opn : ∀ {shs : List Shp} {cs : List Value}, CellsOk w shs cs → ∀ m, ∃ acs regs as, Opn w m shs cs acs regs as
  | [], [], _, _ => ⟨[], [], [], rfl, rfl, rfl, rfl⟩
  | .k k :: r, v :: vs, h, m => by
    obtain ⟨⟨c, c1, c2⟩, h⟩ := h
    obtain ⟨acs, regs, as, h⟩ := CellsOk.opn h m
    exact ⟨c :: acs, regs, as, v, vs, c, acs, rfl, rfl, c1, c2, h⟩
  | .sl ty ks :: r, v :: vs, h, m => by
    obtain ⟨⟨o, len, cap, L, b, off, rfl, h1, h2, h3, h4, h5, h6, h7⟩, h⟩ := h
    obtain ⟨acs, regs, as, h⟩ := CellsOk.opn h (m + 1)
    exact ⟨_, _, _, o, len, cap, L, b, off, vs, acs, regs, as, rfl, rfl, rfl, rfl, h1, h2, h3, h4, h5, h6, h7, h⟩
  | .ss ty ty2 ks :: r, v :: vs, h, m => by
    obtain ⟨⟨o, len, cap, G, b, off, bI, oI, rfl, h1, h2, h3, h4, h5, h6, h7⟩, h⟩ := h
    obtain ⟨acs, regs, as, h⟩ := CellsOk.opn h (m + 2)
    exact ⟨_, _, _, o, len, cap, G, b, off, bI, oI, vs, acs, regs, as, rfl, rfl, rfl, rfl, h1, h2, h3, h4, h5, h6, h7, h⟩
  | [], _ :: _, h, _ => h.elim
  | _ :: _, [], h, _ => h.elim
end

/-! ### whole arguments -/
inductive ArgS where
  | one (s : Shp)
  | str (ss : List Shp)
def argS (P : Program) (t : TypeId) : Option ArgS :=
  match structS P t with
  | some ss => some (.str ss)
  | none => (shp1 P t).map .one
def argsS (P : Program) : List TypeId → Option (List ArgS)
  | [] => some []
  | t :: r => match argS P t, argsS P r with
    | some a, some as => some (a :: as)
    | _, _ => none
def ArgS.shs : ArgS → List Shp
  | .one s => [s]
  | .str ss => ss
def allShs : List ArgS → List Shp
  | [] => []
  | a :: r => a.shs ++ allShs r
/-- the cells, gathered into arguments -/
def gather : List ArgS → List AC → List AV
  | [], _ => []
  | .one _ :: r, cs => .c (cs.getD 0 dfl) :: gather r (cs.drop 1)
  | .str ss :: r, cs => .agg (cs.take ss.length) :: gather r (cs.drop ss.length)

section
variable {H : Type} {enc : TypeId × Value → H} {P : Program} {w : World}

theorem okWide_cells {t : TypeId} {s : Shp} {v : Value} {b0 : Nat} (hk : shp1 P t = some s) (hval : Value.okWide P w .any b0 t v) {c : Value} (h : v.cells.toList = [c]) : v = c := by
  have hne : ∀ cs, v ≠ .agg cs := by
    rintro cs rfl
    unfold shp1 shp0 kd1 at hk
    unfold Value.okWide at hval
    cases hu : P.underlying t with
    | none => simp [hu] at hk
    | some d =>
      simp only [hu] at hval hk
      cases d <;> simp [Cell.okWide, Cell.ok, hu] at hval hk
  cases v with
  | agg cs => exact absurd rfl (hne cs)
  | _ => simpa [Value.cells] using h

theorem args_cells : ∀ {ts : List TypeId} {as : List ArgS} {vs : List Value} {ds : List (DataW H)} {ps : List MemPlace}, argsS P ts = some as → DataW.TrodAll enc P w 0 (fun _ => true) true ts vs ds ps →
    (∀ (j : Nat) t v, ts[j]? = some t → vs[j]? = some v → Value.okWide P w .any 0 t v) →
    ∃ cs, CellsOk w (allShs as) cs ∧ ∀ ρ acs, Cells ρ acs cs → Args ρ (gather as acs) vs
  | [], as, [], _, _, hk, _, _ => by
    simp only [argsS, Option.some.injEq] at hk
    subst hk
    exact ⟨[], trivial, fun _ _ _ => trivial⟩
  | t :: r, as, v :: vs, d :: ds, ps, hk, ⟨p, q, h1, h2, _⟩, hval => by
    simp only [argsS] at hk
    split at hk
    · rename_i a as' ha has
      obtain rfl := Option.some.inj hk
      obtain ⟨cs', c1, c2⟩ := args_cells (as := as') has h2 fun j t' v' e1 e2 => hval (j + 1) t' v' e1 e2
      obtain ⟨fuel, hf⟩ := h1
      have hv := hval 0 t v rfl rfl
      unfold argS at ha
      split at ha
      · rename_i ss hss
        obtain rfl := Option.some.inj ha
        have hc := structS_open hss hf
        have hag : ∃ cs, v = .agg cs := by
          unfold structS structG at hss
          unfold Value.okWide at hv
          split at hss
          · rename_i fs hu
            simp only [hu] at hv
            obtain ⟨cs, e, _⟩ := hv
            exact ⟨cs, e⟩
          · cases hss
        obtain ⟨cs, rfl⟩ := hag
        refine ⟨cs.toList ++ cs', hc.append c1, fun ρ acs hac => ?_⟩
        have hlen : ∀ {ss : List Shp} {cs : List Value}, CellsOk w ss cs → ss.length = cs.length := by
          intro ss
          induction ss with
          | nil => intro cs h; cases cs with
            | nil => rfl
            | cons _ _ => exact h.elim
          | cons s r ih => intro cs h; cases cs with
            | nil => exact h.elim
            | cons _ _ => simp [ih h.2]
        have hl : ss.length = cs.toList.length := hlen hc
        have h3 := hac.take ss.length
        have h4 := hac.drop ss.length
        rw [hl, List.take_left] at h3
        rw [hl, List.drop_left] at h4
        exact ⟨⟨cs.toList, by simp, by rw [hl]; exact h3⟩, by rw [hl]; exact c2 ρ _ h4⟩
      · cases hs : shp1 P t with
        | none => simp [hs] at ha
        | some s =>
          simp [hs] at ha
          subst ha
          obtain ⟨v', e, hc⟩ := shp1_open hs hf
          have hve := okWide_cells hs hv e
          subst hve
          refine ⟨v :: cs', ⟨hc, c1⟩, fun ρ acs hac => ?_⟩
          cases acs with
          | nil => exact hac.elim
          | cons c acs => exact ⟨hac.1, c2 ρ acs hac.2⟩
    · cases hk
  | [], _, _ :: _, _, _, _, h, _ => h.elim
  | _ :: _, _, [], _, _, _, h, _ => h.elim
  | _ :: _, _, _ :: _, [], _, _, h, _ => h.elim

/-- THE ARGUMENTS, IN THE ENGINE'S TERMS. -/
theorem args_open {ts : List TypeId} {sh : List ArgS} {vs : List Value} {ds : List (DataW H)} {ps : List MemPlace} (hk : argsS P ts = some sh) (h : DataW.TrodAll enc P w 0 (fun _ => true) true ts vs ds ps)
    (hval : ∀ (j : Nat) t v, ts[j]? = some t → vs[j]? = some v → Value.okWide P w .any 0 t v) :
    ∃ cs acs regs ads, Opn w 0 (allShs sh) cs acs regs ads ∧ ∀ ρ, Agree (locM regs) (envOf ads) ρ → MemOk (fun _ => False) w.heap.size ρ (locM regs) w ∧ Args ρ (gather sh acs) vs := by
  obtain ⟨cs, c1, c2⟩ := args_cells hk h hval
  obtain ⟨acs, regs, ads, ho⟩ := c1.opn 0
  refine ⟨cs, acs, regs, ads, ho, fun ρ hρ => ?_⟩
  obtain ⟨h1, h2⟩ := opn_all ho ρ hρ
  exact ⟨h1, c2 ρ acs h2⟩

theorem trod_len : ∀ {ts : List TypeId} {vs : List Value} {ds : List (DataW H)} {ps : List MemPlace}, DataW.TrodAll enc P w 0 (fun _ => true) true ts vs ds ps → ds.length = ts.length
  | [], [], [], _, _ => rfl
  | _ :: _, _ :: _, _ :: _, _, ⟨_, _, _, h, _⟩ => by simp [trod_len h]
  | [], _ :: _, _, _, h => h.elim
  | [], [], _ :: _, _, h => h.elim
  | _ :: _, [], _, _, h => h.elim
  | _ :: _, _ :: _, [], _, h => h.elim
/-- the arguments read again, behind a call that has changed nothing -/
theorem args_again (hl : laidOutB P = true) {W' : World} {sp : Nat → Bool} : ∀ {ts : List TypeId} {vs : List Value} {ds : List (DataW H)} {ps : List MemPlace}, (∀ t ∈ ts, P.readableRec t = true ∧ t < P.types.size) →
    DataW.TrodAll enc P w 0 (fun _ => true) true ts vs ds ps → Below w.heap.size w W' → (∀ x ∈ ps, x.block < w.heap.size) → (∀ x ∈ ps, sp x.block = true) → DataW.TrodAll enc P W' 0 sp true ts vs ds ps
  | [], [], [], _, _, h, _, _, _ => h
  | t :: ts, v :: vs, d :: ds, ps, hr, ⟨p, q, h1, h2, e⟩, hb, hlt, hsp => by
    subst e
    refine ⟨p, q, ?_, args_again hl (fun t ht => hr t (by simp [ht])) h2 hb (fun x hx => hlt x (by simp [hx])) (fun x hx => hsp x (by simp [hx])), rfl⟩
    exact WideElems.Trod_stays hl (hr t (by simp)).1 (hr t (by simp)).2 h1 (fun x hx => hb.same (hlt x (by simp [hx]))) (fun x hx => hsp x (by simp [hx]))
  | [], _ :: _, _, _, _, h, _, _, _ => h.elim
  | _ :: _, [], _, _, _, h, _, _, _ => h.elim
  | _ :: _, _ :: _, [], _, _, h, _, _, _ => h.elim
end

/-- data whose cells are of these kinds -/
class CelK (α : Type) [Cel α] where
  ks : List Kd
  len : ks.length = Cel.sz α
  back : ∀ acs, HasK ks acs → enc (dec acs : α) = acs
theorem HasK1 {k : Kd} {acs : List AC} (h : HasK [k] acs) : ∃ c, acs = [c] ∧ k.Is c := by
  match acs, h with
  | [c], h => exact ⟨c, rfl, h.1⟩
instance : CelK Int := ⟨[.int], rfl, fun acs h => by obtain ⟨c, rfl, n, rfl, _⟩ := HasK1 h; rfl⟩
instance : CelK Bool := ⟨[.bool], rfl, fun acs h => by obtain ⟨c, rfl, n, rfl⟩ := HasK1 h; rfl⟩
instance : CelK ByteArray := ⟨[.str], rfl, fun acs h => by obtain ⟨c, rfl, n, rfl, _⟩ := HasK1 h; rfl⟩
instance : CelK UInt8 := ⟨[.u8], rfl, fun acs h => by obtain ⟨c, rfl, n, rfl⟩ := HasK1 h; simp [enc, dec, cI, AC.asInt]⟩

theorem RowOk_arg {α : Type} [Cel α] [CelK α] {r : RId} {ty : TypeId} {len s : Nat} {L : List (List AC)} (hs : s = Cel.sz α) (hl : L.length = len) (hK : ∀ acs ∈ L, HasK (CelK.ks α) acs) (hb : len ≤ 4294967296) :
    RowOk α ⟨r, 0, 0, 0⟩ len (some (.rows false ty s [(len, L)])) := by
  subst hl hs
  refine ⟨hb, .inr ⟨rfl, rfl, (by show 0 < 1; omega), by simp, ?_⟩⟩
  simp only [List.getD_cons_zero, Nat.zero_add, win_whole]
  exact fun cs hcs => CelK.back cs (hK cs hcs)
end Go.Eng

