/- THE ENGINE, EngE. -/
import Derived.Test.YtjdppjomhkbljaaEngD
import Derived.Laws.Externs
set_option linter.unusedVariables false
set_option linter.unusedSimpArgs false
set_option linter.unusedSectionVars false
namespace Go.Eng
open Cel (enc dec)
abbrev T3 := Int × Int × Int
instance : Cel T3 := ⟨3, fun x => [.int .i64 x.1, .int .i64 x.2.1, .int .i64 x.2.2], fun cs => (cI cs 0, cI cs 1, cI cs 2), fun _ => rfl, fun _ => rfl, fun h cs => by simp [cI_map],
  fun _ c h => by simp at h; rcases h with rfl | rfl | rfl <;> rfl, fun _ c h _ => by simp at h; rcases h with rfl | rfl | rfl <;> rfl⟩
theorem enc_t3 (x : T3) : enc x = [.int .i64 x.1, .int .i64 x.2.1, .int .i64 x.2.2] := Eq.trans rfl rfl
theorem sz_t3 : Cel.sz T3 = 3 := Eq.trans rfl rfl
theorem HasK3 {a b c : Kd} {acs : List AC} (h : HasK [a, b, c] acs) : ∃ x y z, acs = [x, y, z] ∧ a.Is x ∧ b.Is y ∧ c.Is z := by
  match acs, h with
  | [x, y, z], h => exact ⟨x, y, z, rfl, h.1, h.2.1, h.2.2.1⟩
instance : CelK T3 := ⟨[.int, .int, .int], rfl, fun acs h => by obtain ⟨x, y, z, rfl, ⟨n, rfl, _⟩, ⟨m, rfl, _⟩, ⟨k, rfl, _⟩⟩ := HasK3 h; rfl⟩

/-! ### a row of one's own, whole -/
def Spec.and (p : Prop) : Spec → Spec
  | .pure pre v => .pure (p ∧ pre) v
  | .eff pre ι cond val new upd => .eff (p ∧ pre) ι cond val new upd
  | .bad => .bad
theorem and_pure {p pre : Prop} {v : AV} : Spec.and p (.pure pre v) = .pure (p ∧ pre) v := Eq.trans rfl rfl
theorem and_eff {p pre : Prop} {ι : Type} {cond : ι → Prop} {val : ι → AV} {new : ι → List Rg} {upd : ι → List (RId × Rg)} : Spec.and p (.eff pre ι cond val new upd) = .eff (p ∧ pre) ι cond val new upd := Eq.trans rfl rfl
section
variable (α : Type) [Cel α]
def specR (a : AA) (n : Nat) (o : Option Rg) (K : TypeId → Nat → List α → Spec) : Spec :=
  specG o fun _ t _ _ cap _ _ => (K t (cap 0) (row α a n o)).and (o = some (rowG true t (cap 0) (row α a n o)) ∧ n ≤ 4294967296 ∧ a.i = 0 ∧ a.k = 0 ∧ a.f = 0)
end
section
variable {α : Type} [Cel α]
theorem specR_rows {a : AA} {n : Nat} {own t s c L} {K : TypeId → Nat → List α → Spec} : specR α a n (some (.rows own t s [(c, L)])) K =
    (K t c (row α a n (some (.rows own t s [(c, L)])))).and (some (.rows own t s [(c, L)]) = some (rowG true t c (row α a n (some (.rows own t s [(c, L)])))) ∧ n ≤ 4294967296 ∧ a.i = 0 ∧ a.k = 0 ∧ a.f = 0) := Eq.trans rfl rfl
theorem specR_none {a : AA} {n : Nat} {K : TypeId → Nat → List α → Spec} : specR α a n none K = .bad := Eq.trans rfl rfl
theorem specR_cases {P : Program} {f : FuncId} {args : List AV} {M : RId → Option Rg} {a : AA} {n : Nat} {o : Option Rg} {K : TypeId → Nat → List α → Spec}
    (h : ∀ t c X, o = some (rowG true t c X) → row α a n o = X → X.length = n → n ≤ 4294967296 → a.i = 0 → a.k = 0 → a.f = 0 → (K t c X).OK P f args M) : (specR α a n o K).OK P f args M := by
  unfold specR specG
  split
  · rename_i o' t s cnt cap len get
    have hh := h t (cap 0) (row α a n (some (.arr o' t s cnt cap len get)))
    show (Spec.and _ (K t (cap 0) (row α a n (some (.arr o' t s cnt cap len get))))).OK P f args M
    cases hK : K t (cap 0) (row α a n (some (.arr o' t s cnt cap len get))) with
    | pure pre v => rw [hK] at hh; exact fun hp => hh hp.1.1 rfl (row_length _ _ _) hp.1.2.1 hp.1.2.2.1 hp.1.2.2.2.1 hp.1.2.2.2.2 hp.2
    | eff pre ι cond val new upd => rw [hK] at hh; exact fun hp => hh hp.1.1 rfl (row_length _ _ _) hp.1.2.1 hp.1.2.2.1 hp.1.2.2.2.1 hp.1.2.2.2.2 hp.2
    | bad => trivial
  · trivial
end

/-! ### closures; slices with three bounds -/
section
variable {P : Program} {C : List Contract} {S : St} {γ : Bool} {K : Bool → AV → St → Prop}
def clsK : List AV → (List AA → Prop) → Prop
  | [], K => K []
  | .c (.ptr p) :: r, K => clsK r fun ps => K (p :: ps)
  | _ :: _, _ => False
theorem clsK_nil {K : List AA → Prop} : clsK [] K = K [] := Eq.trans rfl rfl
theorem clsK_cons {p : AA} {r : List AV} {K : List AA → Prop} : clsK (.c (.ptr p) :: r) K = clsK r fun ps => K (p :: ps) := Eq.trans rfl rfl
def ptrO : AV → Option AA
  | .c (.ptr p) => some p
  | _ => none
theorem clsK_eq : ∀ (l : List AV) (K : List AA → Prop), (match (l.mapM ptrO : Option (List AA)) with
    | some ps => K ps
    | none => False) = clsK l K
  | [], K => by simp [clsK]
  | a :: r, K => by
    rw [List.mapM_cons]
    cases a with
    | c x => cases x with
      | ptr p =>
        rw [clsK_cons, ← clsK_eq r]
        show (match (do let b ← (some p : Option AA); let bs ← r.mapM ptrO; pure (b :: bs) : Option (List AA)) with
          | some ps => K ps
          | none => False) = _
        cases r.mapM ptrO <;> rfl
      | _ => simp [ptrO, clsK]
    | _ => simp [ptrO, clsK]
theorem op_makeFunc {f : FuncId} {caps : List Operand} : opVC P C (.makeFunc (.func f) #[] caps.toArray) S γ K = rds S γ caps fun l => clsK l fun ps => K γ (.c (.clo f ps)) S := by
  have h : opVC P C (.makeFunc (.func f) #[] caps.toArray) S γ K = rds S γ caps fun l => match (l.mapM ptrO : Option (List AA)) with
    | some ps => K γ (.c (.clo f ps)) S
    | none => False := rfl
  rw [h]
  congr 1
  funext l
  exact clsK_eq l _
theorem op_slice3 {t : TypeId} {x hi mx : Operand} {lo : Option Operand} : opVC P C (.slice t x lo (some hi) (some mx)) S γ K = rd S γ x fun a => asSl a fun p _ c => optK (elP P t) fun e => rgK (S.look p.r)
    (fun _ _ => optI S γ lo 0 fun l => rd S γ hi fun h => asI h fun h => rd S γ mx fun m => asI m fun m => (γ = true → l = 0 ∧ h = 0 ∧ m = 0 ∧ c = 0) ∧ K γ (.c (.sl p 0 0)) S)
    (fun _ _ sz' _ _ _ _ => e.2.1 = sz' ∧ optI S γ lo 0 fun l => rd S γ hi fun h => asI h fun h => rd S γ mx fun m => asI m fun m => (γ = true → 0 ≤ l ∧ l ≤ h ∧ h ≤ m ∧ m ≤ c) ∧ K γ (.c (.sl { p with k := p.k + l.toNat } (h.toNat - l.toNat) (m.toNat - l.toNat))) S)
    (optI S γ lo 0 fun l => rd S γ hi fun h => asI h fun h => rd S γ mx fun m => asI m fun m => (γ = true → l = 0 ∧ h = 0 ∧ m = 0 ∧ c = 0) ∧ K γ (.c (.sl p 0 0)) S) := by
  refine congrArg (rd S γ x) (funext fun a => ?_)
  cases a with
  | c x => cases x with
    | sl p n c =>
      show (match elP P t, S.look p.r with
        | some (_, sz, _), some (.arr _ _ sz' _ _ _ _) => _
        | some _, _ => _
        | _, _ => False) = optK (elP P t) _
      cases elP P t with
      | none => rfl
      | some e =>
        obtain ⟨e, s, b⟩ := e
        cases S.look p.r with
        | none => rfl
        | some g => cases g <;> rfl
    | _ => rfl
  | _ => rfl
/-- a box of one number -/
def box1 (a : AA) (o : Option Rg) (K : Int → Spec) : Spec :=
  match o with
  | some (.box _ [.int .i64 v]) => (K v).and (a.i = 0 ∧ a.k = 0 ∧ a.f = 0)
  | _ => .bad
theorem box1_box {a : AA} {t v K} : box1 a (some (.box t [.int .i64 v])) K = (K v).and (a.i = 0 ∧ a.k = 0 ∧ a.f = 0) := Eq.trans rfl rfl
theorem box1_cases {P : Program} {f : FuncId} {args : List AV} {M : RId → Option Rg} {a : AA} {o : Option Rg} {K : Int → Spec}
    (h : ∀ t v, o = some (.box t [.int .i64 v]) → a.i = 0 → a.k = 0 → a.f = 0 → (K v).OK P f args M) : (box1 a o K).OK P f args M := by
  unfold box1
  split
  · rename_i t v
    have hh := h t v rfl
    cases hK : K v with
    | pure pre w => rw [hK] at hh; exact fun hp => hh hp.1.1 hp.1.2.1 hp.1.2.2 hp.2
    | eff pre ι cond val new upd => rw [hK] at hh; exact fun hp => hh hp.1.1 hp.1.2.1 hp.1.2.2 hp.2
    | bad => trivial
  · trivial
end

/-! ### a window that holds a row -/
section
variable {α : Type} [Cel α]
theorem win_row {g : Nat → List AC} {X : List α} (h : ∀ j, j < X.length → g j = enc (X.getD j default)) : win g X.length = X.map enc := by
  refine List.ext_getElem (by simp [win_length]) fun i hi hi' => ?_
  have hlt : i < X.length := by simpa [win_length] using hi
  have h1 := win_get g hlt
  rw [List.getD_eq_getElem?_getD, List.getElem?_eq_getElem hi, Option.getD_some] at h1
  rw [h1, h i hlt, List.getElem_map, getD_of_lt hlt]
theorem win_enc {g : Nat → List AC} {X : List α} (h : ∀ j, j < X.length → g j = enc (X.getD j default)) : win (fun k => List.map AC.up (g k)) X.length = X.map enc :=
  win_row fun j hj => by rw [h j hj, enc_up]
end

theorem getD_set_self {β : Type} {L : List β} {i : Nat} {x d : β} (h : i < L.length) : (L.set i x).getD i d = x := by
  rw [List.getD_eq_getElem?_getD, List.getElem?_set_self h, Option.getD_some]
theorem getD_set_ne {β : Type} {L : List β} {i j : Nat} {x d : β} (h : i ≠ j) : (L.set i x).getD j d = L.getD j d := by
  rw [List.getD_eq_getElem?_getD, List.getElem?_set_ne h, List.getD_eq_getElem?_getD]

theorem getD_map {α β : Type} [Inhabited α] [Inhabited β] {f : α → β} {X : List α} {i : Nat} (h : i < X.length) : (X.map f).getD i default = f (X.getD i default) := by
  rw [getD_of_lt (by simpa using h), getD_of_lt h, List.getElem_map]

theorem set_getD_self {β : Type} {L : List β} {i : Nat} {d : β} : L.set i (L.getD i d) = L := by
  refine List.ext_getElem (by simp) fun j hj hj' => ?_
  rw [List.getElem_set]
  split
  · rename_i e
    subst e
    rw [List.getD_eq_getElem?_getD, List.getElem?_eq_getElem hj', Option.getD_some]
  · rfl

/-! ### marks -/
def mark1 (k : Int) (n : Nat) : List Int := (List.range n).map fun i : Nat => k + (i : Int)
def mark3 (k : Int) (n : Nat) : List T3 := (List.range n).map fun i : Nat => (k + 3 * (i : Int), k + 3 * (i : Int) + 1, k + 3 * (i : Int) + 2)
def markB (k : Int) (n : Nat) : List Bool := (List.range n).map fun i : Nat => decide ((k + (i : Int)).tmod 3 = 0)
theorem mark1_length (k : Int) (n : Nat) : (mark1 k n).length = n := by simp [mark1]
theorem mark3_length (k : Int) (n : Nat) : (mark3 k n).length = n := by simp [mark3]
theorem markB_length (k : Int) (n : Nat) : (markB k n).length = n := by simp [markB]
theorem mark1_get (k : Int) {n i : Nat} (h : i < n) : (mark1 k n).getD i default = k + i := by rw [getD_of_lt (by rw [mark1_length]; exact h)]; simp [mark1]
theorem mark3_get (k : Int) {n i : Nat} (h : i < n) : (mark3 k n).getD i default = (k + 3 * i, k + 3 * i + 1, k + 3 * i + 2) := by rw [getD_of_lt (by rw [mark3_length]; exact h)]; simp [mark3]
theorem markB_get (k : Int) {n i : Nat} (h : i < n) : (markB k n).getD i default = decide ((k + i).tmod 3 = 0) := by rw [getD_of_lt (by rw [markB_length]; exact h)]; simp [markB]
section
variable {α : Type}
/-- the first i of Y, then the rest of X -/
def over (Y X : List α) (i : Nat) : List α := Y.take i ++ X.drop i
theorem over_zero (Y X : List α) : over Y X 0 = X := by simp [over]
theorem over_all (Y X : List α) (h : Y.length = X.length) : over Y X X.length = Y := by
  unfold over
  rw [List.drop_eq_nil_of_le (Nat.le_refl _), List.append_nil, List.take_of_length_le (by omega)]
theorem over_length (Y X : List α) (i : Nat) (h : Y.length = X.length) : (over Y X i).length = X.length := by simp [over]; omega
theorem over_set (Y X : List α) (i : Nat) (e : α) (h : Y.length = X.length) (hi : i < X.length) : (over Y X i).set i (Y.getD i e) = over Y X (i + 1) := by
  unfold over
  rw [List.set_append_right _ _ (by simp; omega), take_step Y i e (by omega), List.append_assoc]
  congr 1
  simp only [List.length_take, Nat.min_eq_left (show i ≤ Y.length by omega), Nat.sub_self]
  rw [List.drop_eq_getElem_cons hi]
  rfl
theorem over_get (Y X : List α) (i : Nat) (e : α) (h : Y.length = X.length) (hi : i < X.length) : (over Y X i).getD i e = X.getD i e := by
  unfold over
  rw [List.getD_eq_getElem?_getD, List.getElem?_append_right (by simp; omega), List.getElem?_drop, List.getD_eq_getElem?_getD]
  congr 2; simp; omega
end
end Go.Eng

namespace Go.Eng
open Cel (enc dec)
section
variable {α : Type} [Cel α]
theorem RowOk.sub {a : AA} {n q : Nat} {o : Option Rg} (h : RowOk α a n o) (hq : q ≤ n) :
    RowOk α ⟨a.r, a.i, a.k + q, 0⟩ (n - q) o ∧ row α ⟨a.r, a.i, a.k + q, 0⟩ (n - q) o = (row α a n o).drop q := by
  have h1 : row α ⟨a.r, a.i, a.k + q, 0⟩ (n - q) o = (row α a n o).drop q := by
    refine List.ext_getElem (by simp [row_length]) fun j hj hj' => ?_
    rw [List.getElem_drop]
    simp only [row, List.getElem_map]
    have hlt : j < n - q := by simpa [row_length] using hj
    unfold win
    simp only [List.getElem_map, List.getElem_range]
    unfold atG
    cases o with
    | none => rfl
    | some g => cases g <;> simp [Nat.add_assoc]
  refine ⟨⟨by have := h.1; omega, ?_⟩, h1⟩
  rcases Nat.eq_zero_or_pos (n - q) with h0 | h0
  · exact .inl h0
  · refine .inr ?_
    have h2 := h.2.resolve_left (by omega)
    cases o with
    | none => exact h2.elim
    | some g => cases g with
      | box t cs => exact h2.elim
      | arr own ty s cnt cap len get =>
        rw [RowAt_arr] at h2 ⊢
        obtain ⟨e1, e2, e3, e4, e5⟩ := h2
        refine ⟨e1, rfl, e3, by show a.k + q + (n - q) ≤ len a.i; omega, ?_⟩
        intro cs hcs
        obtain ⟨j, hj, rfl⟩ := List.mem_map.1 hcs
        have hj := List.mem_range.1 hj
        refine e5 _ (List.mem_map.2 ⟨q + j, List.mem_range.2 (by omega), ?_⟩)
        show get a.i (a.k + (q + j)) = get a.i (a.k + q + j)
        rw [Nat.add_assoc]
theorem RowOk.pre {a : AA} {n m : Nat} {o : Option Rg} (h : RowOk α a n o) (hm : m ≤ n) :
    RowOk α a m o ∧ row α a m o = (row α a n o).take m := by
  have h1 : row α a m o = (row α a n o).take m := by
    refine List.ext_getElem (by simp [row_length]; omega) fun j hj hj' => ?_
    rw [List.getElem_take]
    simp [row, win]
  refine ⟨⟨by have := h.1; omega, ?_⟩, h1⟩
  rcases Nat.eq_zero_or_pos m with h0 | h0
  · exact .inl h0
  · refine .inr ?_
    have h2 := h.2.resolve_left (by omega)
    cases o with
    | none => exact h2.elim
    | some g => cases g with
      | box t cs => exact h2.elim
      | arr own ty s cnt cap len get =>
        rw [RowAt_arr] at h2 ⊢
        obtain ⟨e1, e2, e3, e4, e5⟩ := h2
        refine ⟨e1, e2, e3, by omega, ?_⟩
        intro cs hcs
        obtain ⟨j, hj, rfl⟩ := List.mem_map.1 hcs
        have hj := List.mem_range.1 hj
        exact e5 _ (List.mem_map.2 ⟨j, List.mem_range.2 (by omega), rfl⟩)
end
/-- a box of a slice -/
def boxS (a : AA) (o : Option Rg) (K : AA → Nat → Nat → Spec) : Spec :=
  match o with
  | some (.box _ [.sl b m c]) => (K b m c).and (a.i = 0 ∧ a.k = 0 ∧ a.f = 0)
  | _ => .bad
theorem boxS_box {a : AA} {t b m c K} : boxS a (some (.box t [.sl b m c])) K = (K b m c).and (a.i = 0 ∧ a.k = 0 ∧ a.f = 0) := Eq.trans rfl rfl
theorem boxS_cases {P : Program} {f : FuncId} {args : List AV} {M : RId → Option Rg} {a : AA} {o : Option Rg} {K : AA → Nat → Nat → Spec}
    (h : ∀ t b m c, o = some (.box t [.sl b m c]) → a.i = 0 → a.k = 0 → a.f = 0 → (K b m c).OK P f args M) : (boxS a o K).OK P f args M := by
  unfold boxS
  split
  · rename_i t b m c
    have hh := h t b m c rfl
    cases hK : K b m c with
    | pure pre w => rw [hK] at hh; exact fun hp => hh hp.1.1 hp.1.2.1 hp.1.2.2 hp.2
    | eff pre ι cond val new upd => rw [hK] at hh; exact fun hp => hh hp.1.1 hp.1.2.1 hp.1.2.2 hp.2
    | bad => trivial
  · trivial
end Go.Eng

namespace Go.Eng
open Cel (enc dec)
abbrev TR := Int × ByteArray × Bool
instance : Cel TR := ⟨3, fun x => [.int .i64 x.1, .str x.2.1, .bool x.2.2], fun cs => (cI cs 0, cS cs 1, cB cs 2), fun _ => rfl, fun _ => rfl, fun h cs => by simp [cI_map, cS_map, cB_map],
  fun _ c h => by simp at h; rcases h with rfl | rfl | rfl <;> rfl, fun _ c h _ => by simp at h; rcases h with rfl | rfl | rfl <;> rfl⟩
theorem enc_tr (x : TR) : enc x = [.int .i64 x.1, .str x.2.1, .bool x.2.2] := Eq.trans rfl rfl
theorem sz_tr : Cel.sz TR = 3 := Eq.trans rfl rfl
instance : CelK TR := ⟨[.int, .str, .bool], rfl, fun acs h => by obtain ⟨x, y, z, rfl, ⟨n, rfl, _⟩, ⟨m, rfl, _⟩, ⟨k, rfl⟩⟩ := HasK3 h; rfl⟩
/-- texts of arguments are not too long -/
def strsOk (X : List ByteArray) : Prop := ∀ x ∈ X, x.size ≤ 9223372036854775807
theorem row_arg {α : Type} [Cel α] {r : RId} {ty : TypeId} {len s : Nat} {L : List (List AC)} (hl : L.length = len) : row α ⟨r, 0, 0, 0⟩ len (some (.rows false ty s [(len, L)])) = L.map dec := by
  subst hl
  rw [row_rows]
  simp only [List.getD_cons_zero, Nat.zero_add, win_whole]
theorem strs_arg {r : RId} {ty : TypeId} {len s : Nat} {L : List (List AC)} (hl : L.length = len) (hK : ∀ acs ∈ L, HasK [.str] acs) : strsOk (row ByteArray ⟨r, 0, 0, 0⟩ len (some (.rows false ty s [(len, L)]))) := by
  rw [row_arg hl]
  intro x hx
  obtain ⟨acs, ha, rfl⟩ := List.mem_map.1 hx
  obtain ⟨c, rfl, t, rfl, ht⟩ := HasK1 (hK acs ha)
  exact ht
theorem strsR_arg {r : RId} {ty : TypeId} {len s : Nat} {L : List (List AC)} (hl : L.length = len) (hK : ∀ acs ∈ L, HasK [.int, .str, .bool] acs) : strsOk ((row TR ⟨r, 0, 0, 0⟩ len (some (.rows false ty s [(len, L)]))).map fun x => x.2.1) := by
  rw [row_arg hl, List.map_map]
  intro x hx
  obtain ⟨acs, ha, rfl⟩ := List.mem_map.1 hx
  obtain ⟨x, y, z, rfl, ⟨n, rfl, _⟩, ⟨m, rfl, hm⟩, ⟨k, rfl⟩⟩ := HasK3 (hK acs ha)
  exact hm
/-- what is left of a measure when the texts are taken from it; -1 where it does not do -/
def szGo : List ByteArray → Int → Int
  | [], l => l
  | s :: r, l => if l - s.size < 0 then -1 else szGo r (l - s.size)
theorem szGo_range : ∀ (X : List ByteArray) (l : Int), 0 ≤ l → -1 ≤ szGo X l ∧ szGo X l ≤ l ∧ (0 ≤ szGo X l → ∀ x ∈ X, (x.size : Int) ≤ l)
  | [], l, h => ⟨by unfold szGo; omega, by unfold szGo; omega, fun _ x hx => by cases hx⟩
  | s :: r, l, h => by
    unfold szGo
    split
    · exact ⟨by omega, by omega, fun h => absurd h (by omega)⟩
    · obtain ⟨h1, h2, h3⟩ := szGo_range r (l - s.size) (by omega)
      refine ⟨h1, by omega, fun h4 x hx => ?_⟩
      rcases List.mem_cons.1 hx with rfl | hx
      · omega
      · have := h3 h4 x hx; omega
theorem szGo_step {X : List ByteArray} {i : Nat} {l : Int} (h : i < X.length) : szGo (X.drop i) l = if l - (X.getD i default).size < 0 then -1 else szGo (X.drop (i + 1)) (l - (X.getD i default).size) := by
  rw [List.drop_eq_getElem_cons h, szGo, getD_of_lt h]
def szS (X : List ByteArray) (n : Nat) (l : Int) : Int := if l - n < 0 then -1 else szGo X (l - n)
theorem szS_range {X : List ByteArray} {n : Nat} {l : Int} (h : 0 ≤ l) : -1 ≤ szS X n l ∧ szS X n l ≤ l ∧ (0 ≤ szS X n l → (n : Int) ≤ l ∧ ∀ x ∈ X, (x.size : Int) ≤ l) := by
  unfold szS
  split
  · exact ⟨by omega, by omega, fun h => absurd h (by omega)⟩
  · obtain ⟨h1, h2, h3⟩ := szGo_range X (l - n) (by omega)
    exact ⟨h1, by omega, fun h4 => ⟨by omega, fun x hx => by have := h3 h4 x hx; omega⟩⟩
/-- the digits of a number -/
def digs (k : Nat) : List UInt8 := if k = 0 then [] else digs (k / 10) ++ [UInt8.ofNat (48 + k % 10)]
termination_by k
decreasing_by omega
theorem digs_zero : digs 0 = [] := by rw [digs]; rfl
theorem digs_pos {k : Nat} (h : 0 < k) : digs k = digs (k / 10) ++ [UInt8.ofNat (48 + k % 10)] := by rw [digs, if_neg (by omega)]
theorem digs_len : ∀ (d k : Nat), k < 10 ^ d → (digs k).length ≤ d
  | 0, k, h => by
    have : k = 0 := by simpa using h
    subst this
    rw [digs_zero]; exact Nat.le_refl _
  | d + 1, k, h => by
    rcases Nat.eq_zero_or_pos k with h0 | h0
    · subst h0; rw [digs_zero]; exact Nat.zero_le _
    · rw [digs_pos h0, List.length_append]
      have := digs_len d (k / 10) (Nat.div_lt_of_lt_mul (by rw [Nat.pow_succ, Nat.mul_comm] at h; exact h))
      simp; omega
def markT (k : Int) : ByteArray := if k ≤ 0 then bytes [109, 48] else bytes (109 :: digs k.toNat)
def markS (k : Int) (n : Nat) : List ByteArray := (List.range n).map fun i : Nat => markT (k + (i : Int))
def markR (k : Int) (n : Nat) : List TR := (List.range n).map fun i : Nat => (k + 3 * (i : Int), markT (k + 3 * (i : Int) + 1), decide ((k + 3 * (i : Int) + 2).tmod 3 = 0))
theorem markS_length (k : Int) (n : Nat) : (markS k n).length = n := by simp [markS]
theorem markR_length (k : Int) (n : Nat) : (markR k n).length = n := by simp [markR]
theorem markS_get (k : Int) {n i : Nat} (h : i < n) : (markS k n).getD i default = markT (k + i) := by rw [getD_of_lt (by rw [markS_length]; exact h)]; simp [markS]
theorem markR_get (k : Int) {n i : Nat} (h : i < n) : (markR k n).getD i default = (k + 3 * i, markT (k + 3 * i + 1), decide ((k + 3 * (i : Int) + 2).tmod 3 = 0)) := by rw [getD_of_lt (by rw [markR_length]; exact h)]; simp [markR]
end Go.Eng

namespace Go.Eng
open Cel (enc dec)
set_option maxRecDepth 4000
theorem WP : ((((((type_of% @Go.Eng.vc_loopH) ∧ ((type_of% @Go.Eng.vc_skip) ∧ (type_of% @Go.Eng.vc_text))) ∧ (((type_of% @Go.Eng.vc_draw) ∧ (type_of% @Go.Eng.vc_seq)) ∧ ((type_of% @Go.Eng.vc_cond) ∧ (type_of% @Go.Eng.vc_block)))) ∧ (((type_of% @Go.Eng.vc_exit) ∧ ((type_of% @Go.Eng.vc_ret) ∧ (type_of% @Go.Eng.steps_nil))) ∧ (((type_of% @Go.Eng.steps_plain') ∧ (type_of% @Go.Eng.steps_guard')) ∧ ((type_of% @Go.Eng.grd_some') ∧ (type_of% @Go.Eng.op_move))))) ∧ ((((type_of% @Go.Eng.op_assign) ∧ ((type_of% @Go.Eng.op_pick) ∧ (type_of% @Go.Eng.op_box))) ∧ (((type_of% @Go.Eng.op_alloc) ∧ (type_of% @Go.Eng.op_build)) ∧ ((type_of% @Go.Eng.op_buildSlice) ∧ (type_of% @Go.Eng.op_load)))) ∧ ((((type_of% @Go.Eng.load_eq) ∧ (type_of% @Go.Eng.op_store)) ∧ ((type_of% @Go.Eng.store_eq) ∧ (type_of% @Go.Eng.op_nilCheck))) ∧ (((type_of% @Go.Eng.op_bin) ∧ (type_of% @Go.Eng.op_un)) ∧ ((type_of% @Go.Eng.op_convert) ∧ (type_of% @Go.Eng.op_makeSlice)))))) ∧ (((((type_of% @Go.Eng.op_slice) ∧ ((type_of% @Go.Eng.sl2_sl) ∧ (type_of% @Go.Eng.sl2_str))) ∧ (((type_of% @Go.Eng.optI_none) ∧ (type_of% @Go.Eng.optI_some)) ∧ ((type_of% @Go.Eng.op_fieldAddr) ∧ (type_of% @Go.Eng.op_field)))) ∧ (((type_of% @Go.Eng.op_indexAddr) ∧ ((type_of% @Go.Eng.op_index) ∧ (type_of% @Go.Eng.op_extract))) ∧ (((type_of% @Go.Eng.exK_agg) ∧ (type_of% @Go.Eng.exK_c)) ∧ ((type_of% @Go.Eng.exK_next) ∧ (type_of% @Go.Eng.op_call))))) ∧ ((((type_of% @Go.Eng.op_bi) ∧ ((type_of% @Go.Eng.spec_pure) ∧ (type_of% @Go.Eng.spec_eff))) ∧ (((type_of% @Go.Eng.bi_len_sl) ∧ (type_of% @Go.Eng.bi_len_str)) ∧ ((type_of% @Go.Eng.bi_cap) ∧ (type_of% @Go.Eng.bi_min)))) ∧ ((((type_of% @Go.Eng.bi_max) ∧ (type_of% @Go.Eng.bi_append)) ∧ ((type_of% @Go.Eng.bi_clear) ∧ (type_of% @Go.Eng.bi_copy))) ∧ (((type_of% @Go.Eng.wr_eq) ∧ (type_of% @Go.Eng.app_eq)) ∧ ((type_of% @Go.Eng.cv_int) ∧ (type_of% @Go.Eng.cv_str))))))) ∧ ((((((type_of% @Go.Eng.cv_s2b) ∧ ((type_of% @Go.Eng.cv_b2s) ∧ (type_of% @Go.Eng.cv_own))) ∧ (((type_of% @Go.Eng.eff_true) ∧ (type_of% @Go.Eng.eff_false)) ∧ ((type_of% @Go.Eng.asB_b) ∧ (type_of% @Go.Eng.asBG_b)))) ∧ (((type_of% @Go.Eng.asI_i) ∧ ((type_of% @Go.Eng.asPtr_p) ∧ (type_of% @Go.Eng.asSl_s))) ∧ (((type_of% @Go.Eng.asStr_str) ∧ (type_of% @Go.Eng.asAgg_agg)) ∧ ((type_of% @Go.Eng.asClo_clo) ∧ (type_of% @Go.Eng.rds_nil))))) ∧ ((((type_of% @Go.Eng.rds_cons) ∧ ((type_of% @Go.Eng.un_not) ∧ (type_of% @Go.Eng.un_neg))) ∧ (((type_of% @Go.Eng.exit_eq') ∧ (type_of% @Go.Eng.res_nil)) ∧ ((type_of% @Go.Eng.res_tmp') ∧ (type_of% @Go.Eng.res_cell')))) ∧ ((((type_of% @Go.Eng.rd_tmp') ∧ (type_of% @Go.Eng.rd_int)) ∧ ((type_of% @Go.Eng.rd_bool) ∧ (type_of% @Go.Eng.rd_str))) ∧ (((type_of% @Go.Eng.rd_nilsl) ∧ (type_of% @Go.Eng.rd_func)) ∧ ((type_of% @Go.Eng.rdT_nil) ∧ (type_of% @Go.Eng.rdT_hit)))))) ∧ (((((type_of% @Go.Eng.rdT_un) ∧ ((type_of% @Go.Eng.rdT_next) ∧ (type_of% @Go.Eng.optK_some))) ∧ (((type_of% @Go.Eng.optK_none) ∧ (type_of% @Go.Eng.rgK_box)) ∧ ((type_of% @Go.Eng.rgK_arr) ∧ (type_of% @Go.Eng.rgK_none)))) ∧ (((type_of% @Go.Eng.end_pure) ∧ ((type_of% @Go.Eng.dr_nil) ∧ (type_of% @Go.Eng.dr_go'))) ∧ (((type_of% @Go.Eng.dr_alt') ∧ (type_of% @Go.Eng.dr_gob')) ∧ ((type_of% @Go.Eng.boxRd_load) ∧ (type_of% @Go.Eng.tidy_store))))) ∧ ((((type_of% @Go.Eng.tidy_app) ∧ ((type_of% @Go.Eng.rgK_rows) ∧ (type_of% @Go.Eng.specG_rows))) ∧ (((type_of% @Go.Eng.specG_none) ∧ (type_of% @Go.Eng.rd_nilptr)) ∧ ((type_of% @Go.Eng.rd_nilfn) ∧ (type_of% @Go.Eng.rd_nilif)))) ∧ ((((type_of% @Go.Eng.rd_nilmap) ∧ (type_of% @Go.Eng.imp_tt)) ∧ ((type_of% @Go.Eng.imp_ff) ∧ (type_of% @Go.Eng.imp_tf))) ∧ (((type_of% @Go.Eng.imp_ft) ∧ (type_of% @Go.Eng.rows_fold)) ∧ ((type_of% @Go.Eng.op_makeFunc) ∧ (type_of% @Go.Eng.op_slice3))))))) :=
  ⟨⟨⟨⟨⟨⟨@Go.Eng.vc_loopH, ⟨@Go.Eng.vc_skip, @Go.Eng.vc_text⟩⟩, ⟨⟨@Go.Eng.vc_draw, @Go.Eng.vc_seq⟩, ⟨@Go.Eng.vc_cond, @Go.Eng.vc_block⟩⟩⟩, ⟨⟨@Go.Eng.vc_exit, ⟨@Go.Eng.vc_ret, @Go.Eng.steps_nil⟩⟩, ⟨⟨@Go.Eng.steps_plain', @Go.Eng.steps_guard'⟩, ⟨@Go.Eng.grd_some', @Go.Eng.op_move⟩⟩⟩⟩, ⟨⟨⟨@Go.Eng.op_assign, ⟨@Go.Eng.op_pick, @Go.Eng.op_box⟩⟩, ⟨⟨@Go.Eng.op_alloc, @Go.Eng.op_build⟩, ⟨@Go.Eng.op_buildSlice, @Go.Eng.op_load⟩⟩⟩, ⟨⟨⟨@Go.Eng.load_eq, @Go.Eng.op_store⟩, ⟨@Go.Eng.store_eq, @Go.Eng.op_nilCheck⟩⟩, ⟨⟨@Go.Eng.op_bin, @Go.Eng.op_un⟩, ⟨@Go.Eng.op_convert, @Go.Eng.op_makeSlice⟩⟩⟩⟩⟩, ⟨⟨⟨⟨@Go.Eng.op_slice, ⟨@Go.Eng.sl2_sl, @Go.Eng.sl2_str⟩⟩, ⟨⟨@Go.Eng.optI_none, @Go.Eng.optI_some⟩, ⟨@Go.Eng.op_fieldAddr, @Go.Eng.op_field⟩⟩⟩, ⟨⟨@Go.Eng.op_indexAddr, ⟨@Go.Eng.op_index, @Go.Eng.op_extract⟩⟩, ⟨⟨@Go.Eng.exK_agg, @Go.Eng.exK_c⟩, ⟨@Go.Eng.exK_next, @Go.Eng.op_call⟩⟩⟩⟩, ⟨⟨⟨@Go.Eng.op_bi, ⟨@Go.Eng.spec_pure, @Go.Eng.spec_eff⟩⟩, ⟨⟨@Go.Eng.bi_len_sl, @Go.Eng.bi_len_str⟩, ⟨@Go.Eng.bi_cap, @Go.Eng.bi_min⟩⟩⟩, ⟨⟨⟨@Go.Eng.bi_max, @Go.Eng.bi_append⟩, ⟨@Go.Eng.bi_clear, @Go.Eng.bi_copy⟩⟩, ⟨⟨@Go.Eng.wr_eq, @Go.Eng.app_eq⟩, ⟨@Go.Eng.cv_int, @Go.Eng.cv_str⟩⟩⟩⟩⟩⟩, ⟨⟨⟨⟨⟨@Go.Eng.cv_s2b, ⟨@Go.Eng.cv_b2s, @Go.Eng.cv_own⟩⟩, ⟨⟨@Go.Eng.eff_true, @Go.Eng.eff_false⟩, ⟨@Go.Eng.asB_b, @Go.Eng.asBG_b⟩⟩⟩, ⟨⟨@Go.Eng.asI_i, ⟨@Go.Eng.asPtr_p, @Go.Eng.asSl_s⟩⟩, ⟨⟨@Go.Eng.asStr_str, @Go.Eng.asAgg_agg⟩, ⟨@Go.Eng.asClo_clo, @Go.Eng.rds_nil⟩⟩⟩⟩, ⟨⟨⟨@Go.Eng.rds_cons, ⟨@Go.Eng.un_not, @Go.Eng.un_neg⟩⟩, ⟨⟨@Go.Eng.exit_eq', @Go.Eng.res_nil⟩, ⟨@Go.Eng.res_tmp', @Go.Eng.res_cell'⟩⟩⟩, ⟨⟨⟨@Go.Eng.rd_tmp', @Go.Eng.rd_int⟩, ⟨@Go.Eng.rd_bool, @Go.Eng.rd_str⟩⟩, ⟨⟨@Go.Eng.rd_nilsl, @Go.Eng.rd_func⟩, ⟨@Go.Eng.rdT_nil, @Go.Eng.rdT_hit⟩⟩⟩⟩⟩, ⟨⟨⟨⟨@Go.Eng.rdT_un, ⟨@Go.Eng.rdT_next, @Go.Eng.optK_some⟩⟩, ⟨⟨@Go.Eng.optK_none, @Go.Eng.rgK_box⟩, ⟨@Go.Eng.rgK_arr, @Go.Eng.rgK_none⟩⟩⟩, ⟨⟨@Go.Eng.end_pure, ⟨@Go.Eng.dr_nil, @Go.Eng.dr_go'⟩⟩, ⟨⟨@Go.Eng.dr_alt', @Go.Eng.dr_gob'⟩, ⟨@Go.Eng.boxRd_load, @Go.Eng.tidy_store⟩⟩⟩⟩, ⟨⟨⟨@Go.Eng.tidy_app, ⟨@Go.Eng.rgK_rows, @Go.Eng.specG_rows⟩⟩, ⟨⟨@Go.Eng.specG_none, @Go.Eng.rd_nilptr⟩, ⟨@Go.Eng.rd_nilfn, @Go.Eng.rd_nilif⟩⟩⟩, ⟨⟨⟨@Go.Eng.rd_nilmap, @Go.Eng.imp_tt⟩, ⟨@Go.Eng.imp_ff, @Go.Eng.imp_tf⟩⟩, ⟨⟨@Go.Eng.imp_ft, @Go.Eng.rows_fold⟩, ⟨@Go.Eng.op_makeFunc, @Go.Eng.op_slice3⟩⟩⟩⟩⟩⟩⟩
theorem WQ : (((((((type_of% @Int.toNat_natCast) ∧ ((type_of% @Go.Eng.setAll_nil) ∧ (type_of% @Go.Eng.setAll_cons))) ∧ ((type_of% @Go.Eng.dnr_nil') ∧ ((type_of% @Go.Eng.dnr_cons) ∧ (type_of% @Go.Eng.dnl_nil)))) ∧ (((type_of% @Go.Eng.dnl_cons) ∧ ((type_of% @Go.Eng.dnt_nil) ∧ (type_of% @Go.Eng.dnt_cons))) ∧ ((type_of% @Go.Eng.setL_nil) ∧ ((type_of% @Go.Eng.setL_zero) ∧ (type_of% @Go.Eng.setL_succ))))) ∧ ((((type_of% @Go.Eng.l_get_zero) ∧ ((type_of% @Go.Eng.l_get_succ) ∧ (type_of% @Go.Eng.l_get_nil))) ∧ ((type_of% @Go.Eng.cut_true) ∧ ((type_of% @Go.Eng.cut_false) ∧ (type_of% @Go.Eng.patch_eq)))) ∧ (((type_of% @Go.Eng.l_getD_zero) ∧ ((type_of% @Go.Eng.l_getD_succ) ∧ (type_of% @Go.Eng.l_drop_succ))) ∧ ((type_of% @Go.Eng.l_drop_zero) ∧ ((type_of% @Go.Eng.l_take_succ) ∧ (type_of% @Go.Eng.l_take_zero)))))) ∧ (((((type_of% @Go.Eng.l_drop_nil) ∧ ((type_of% @Go.Eng.l_take_nil) ∧ (type_of% @Nat.zero_le))) ∧ ((type_of% @Nat.le_refl) ∧ ((type_of% @Nat.zero_add) ∧ (type_of% @Nat.add_zero)))) ∧ (((type_of% @Bool.false_eq_true) ∧ ((type_of% @Bool.true_eq_false) ∧ (type_of% @false_implies))) ∧ ((type_of% @Go.Eng.getO_nil) ∧ ((type_of% @Go.Eng.getO_hit) ∧ (type_of% @Go.Eng.getO_next))))) ∧ ((((type_of% @Go.Eng.otl_nil) ∧ ((type_of% @Go.Eng.otl_cons) ∧ (type_of% @Go.Eng.ots_nil))) ∧ ((type_of% @Go.Eng.ots_hit) ∧ ((type_of% @Go.Eng.ots_next) ∧ (type_of% @imp_self)))) ∧ (((type_of% @Go.Eng.findC_hit) ∧ ((type_of% @Go.Eng.findC_nil) ∧ (type_of% @Go.Eng.findC_next))) ∧ (((type_of% @Go.Eng.setT_nil') ∧ (type_of% @Go.Eng.setT_zero)) ∧ ((type_of% @Go.Eng.setT_succ) ∧ (type_of% @Go.Eng.put_some))))))) ∧ ((((((type_of% @Go.Eng.put_none) ∧ ((type_of% @Go.Eng.enter_eq) ∧ (type_of% @Go.Eng.up_c))) ∧ ((type_of% @Go.Eng.up_agg) ∧ ((type_of% @Go.Eng.up_int) ∧ (type_of% @Go.Eng.up_bool)))) ∧ (((type_of% @Go.Eng.up_str) ∧ ((type_of% @Go.Eng.up_ptr) ∧ (type_of% @Go.Eng.up_sl))) ∧ ((type_of% @Go.Eng.up_clo) ∧ ((type_of% @Go.Eng.up_raw) ∧ (type_of% @Go.Eng.up_mk))))) ∧ ((((type_of% @Go.Eng.l_map_cons) ∧ ((type_of% @Go.Eng.l_map_nil) ∧ (type_of% @Go.Eng.l_cons_append))) ∧ ((type_of% @Go.Eng.l_nil_append) ∧ ((type_of% @Go.Eng.l_length_cons) ∧ (type_of% @Go.Eng.l_length_nil)))) ∧ (((type_of% @Go.Eng.l_rep_succ) ∧ ((type_of% @Go.Eng.l_rep_zero) ∧ (type_of% @true_and))) ∧ ((type_of% @and_true) ∧ ((type_of% @Bool.true_and) ∧ (type_of% @Bool.and_true)))))) ∧ (((((type_of% @Bool.false_and) ∧ ((type_of% @Bool.and_false) ∧ (type_of% @Go.Eng.dn_c))) ∧ ((type_of% @Go.Eng.dn_agg) ∧ ((type_of% @Go.Eng.dn_tup) ∧ (type_of% @Go.Eng.dn_int)))) ∧ (((type_of% @Go.Eng.dn_bool) ∧ ((type_of% @Go.Eng.dn_str) ∧ (type_of% @Go.Eng.dn_ptr))) ∧ ((type_of% @Go.Eng.dn_sl) ∧ ((type_of% @Go.Eng.dn_clo) ∧ (type_of% @Go.Eng.dn_raw))))) ∧ ((((type_of% @Go.Eng.look_nil) ∧ ((type_of% @Go.Eng.look_loc) ∧ (type_of% @Go.Eng.look_outG))) ∧ ((type_of% @Go.Eng.outG_nil) ∧ ((type_of% @Go.Eng.outG_cons) ∧ (type_of% @Go.Eng.nx_mk)))) ∧ (((type_of% @Go.Eng.alloc_mk) ∧ ((type_of% @Go.Eng.setRg_loc) ∧ (type_of% @Go.Eng.setRg_out))) ∧ (((type_of% @Go.Eng.setG_nil') ∧ (type_of% @Go.Eng.setG_zero)) ∧ ((type_of% @Go.Eng.setG_succ) ∧ (type_of% @Go.Eng.setO_nil')))))))) ∧ (((((((type_of% @Go.Eng.setO_cons') ∧ ((type_of% @Go.Eng.cells_c) ∧ (type_of% @Go.Eng.cells_agg))) ∧ ((type_of% @Go.Eng.noTup_c) ∧ ((type_of% @Go.Eng.noTup_agg) ∧ (type_of% @Go.Eng.isAgg_c)))) ∧ (((type_of% @Go.Eng.isAgg_agg) ∧ ((type_of% @Go.Eng.rows_up) ∧ (type_of% @Go.Eng.rows_dn))) ∧ ((type_of% @Go.Eng.rows_ren) ∧ ((type_of% @Go.Eng.mapLL_nil) ∧ (type_of% @Go.Eng.mapLL_cons))))) ∧ ((((type_of% @Go.Eng.map_enc_up) ∧ ((type_of% @Go.Eng.map_enc_dn) ∧ (type_of% @Go.Eng.map_enc_ren))) ∧ ((type_of% @Go.Eng.enc_dn) ∧ ((type_of% @Go.Eng.enc_ren) ∧ (type_of% @Go.Eng.enc_up)))) ∧ (((type_of% @Go.Eng.win_whole) ∧ ((type_of% @Go.Eng.win_zero) ∧ (type_of% @Go.Eng.atG_rows))) ∧ ((type_of% @Go.Eng.atG_none) ∧ ((type_of% @Go.Eng.atG_arr) ∧ (type_of% @Go.Eng.putAt_end)))))) ∧ (((((type_of% @Go.Eng.l_set_zero) ∧ ((type_of% @Go.Eng.l_set_succ) ∧ (type_of% @Go.Eng.row_up))) ∧ ((type_of% @Go.Eng.RowOk_up) ∧ ((type_of% @Go.Eng.row_zero) ∧ (type_of% @Go.Eng.row_rows)))) ∧ (((type_of% @Go.Eng.RowOk_rows) ∧ ((type_of% @Go.Eng.RowOk_none) ∧ (type_of% @Go.Eng.AA.up_r))) ∧ ((type_of% @Go.Eng.AA.up_i) ∧ ((type_of% @Go.Eng.AA.up_k) ∧ (type_of% @Go.Eng.AA.up_f))))) ∧ ((((type_of% @Go.Eng.enc_int) ∧ ((type_of% @Go.Eng.enc_bool) ∧ (type_of% @Go.Eng.enc_str))) ∧ ((type_of% @Go.Eng.enc_u8) ∧ ((type_of% @Go.Eng.sz_int) ∧ (type_of% @Go.Eng.sz_bool)))) ∧ (((type_of% @Go.Eng.sz_str) ∧ ((type_of% @Go.Eng.sz_u8) ∧ (type_of% @Go.Eng.map_dec_enc))) ∧ (((type_of% @Go.Eng.allEnc_enc) ∧ (type_of% @Go.Eng.row_length)) ∧ ((type_of% @Go.Eng.rowG_eq) ∧ (type_of% @Go.Eng.o_map_some))))))) ∧ ((((((type_of% @Go.Eng.o_map_none) ∧ ((type_of% @Go.Eng.dn_box) ∧ (type_of% @Go.Eng.AA.dn_mk))) ∧ ((type_of% @Go.Eng.AA.dn_up) ∧ ((type_of% @Go.Eng.dn_out) ∧ (type_of% @Go.Eng.dn_nil)))) ∧ (((type_of% @Go.Eng.dn_loc) ∧ ((type_of% @Go.Eng.up_box) ∧ (type_of% @Go.Eng.up_arr))) ∧ ((type_of% @Go.Eng.slots_n) ∧ ((type_of% @Go.Eng.slots_c) ∧ (type_of% @Go.Eng.l_getD_nil))))) ∧ ((((type_of% @Go.Eng.curK_box) ∧ ((type_of% @Go.Eng.CurOk_eq) ∧ (type_of% @Go.Eng.pick_or))) ∧ ((type_of% @Go.Eng.pick_and) ∧ ((type_of% @Bool.not_not) ∧ (type_of% @Bool.true_or)))) ∧ (((type_of% @Bool.or_true) ∧ ((type_of% @Bool.false_or) ∧ (type_of% @Bool.or_false))) ∧ (((type_of% @Bool.not_true) ∧ (type_of% @Bool.not_false)) ∧ ((type_of% @Go.Eng.nilO_tmp) ∧ (type_of% @Go.Eng.nilO_int)))))) ∧ (((((type_of% @Go.Eng.nilO_bool) ∧ ((type_of% @Go.Eng.nilO_str) ∧ (type_of% @Go.Eng.nilO_sl))) ∧ ((type_of% @Go.Eng.eqA_some) ∧ ((type_of% @Go.Eng.eqCs_nil) ∧ (type_of% @Go.Eng.eqCs_int)))) ∧ (((type_of% @Go.Eng.eqCs_bool) ∧ ((type_of% @Go.Eng.eqCs_str) ∧ (type_of% @Go.Eng.enc_t3))) ∧ ((type_of% @Go.Eng.sz_t3) ∧ ((type_of% @Go.Eng.and_pure) ∧ (type_of% @Go.Eng.and_eff))))) ∧ ((((type_of% @Go.Eng.specR_rows) ∧ ((type_of% @Go.Eng.specR_none) ∧ (type_of% @Go.Eng.clsK_nil))) ∧ ((type_of% @Go.Eng.clsK_cons) ∧ ((type_of% @Go.Eng.box1_box) ∧ (type_of% @Go.Eng.boxS_box)))) ∧ (((type_of% @Go.Eng.mark1_length) ∧ ((type_of% @Go.Eng.mark3_length) ∧ (type_of% @Go.Eng.markB_length))) ∧ (((type_of% @Go.Eng.enc_tr) ∧ (type_of% @Go.Eng.sz_tr)) ∧ ((type_of% @Go.Eng.markS_length) ∧ (type_of% @Go.Eng.markR_length)))))))) :=
  ⟨⟨⟨⟨⟨⟨⟨@Int.toNat_natCast, ⟨@Go.Eng.setAll_nil, @Go.Eng.setAll_cons⟩⟩, ⟨@Go.Eng.dnr_nil', ⟨@Go.Eng.dnr_cons, @Go.Eng.dnl_nil⟩⟩⟩, ⟨⟨@Go.Eng.dnl_cons, ⟨@Go.Eng.dnt_nil, @Go.Eng.dnt_cons⟩⟩, ⟨@Go.Eng.setL_nil, ⟨@Go.Eng.setL_zero, @Go.Eng.setL_succ⟩⟩⟩⟩, ⟨⟨⟨@Go.Eng.l_get_zero, ⟨@Go.Eng.l_get_succ, @Go.Eng.l_get_nil⟩⟩, ⟨@Go.Eng.cut_true, ⟨@Go.Eng.cut_false, @Go.Eng.patch_eq⟩⟩⟩, ⟨⟨@Go.Eng.l_getD_zero, ⟨@Go.Eng.l_getD_succ, @Go.Eng.l_drop_succ⟩⟩, ⟨@Go.Eng.l_drop_zero, ⟨@Go.Eng.l_take_succ, @Go.Eng.l_take_zero⟩⟩⟩⟩⟩, ⟨⟨⟨⟨@Go.Eng.l_drop_nil, ⟨@Go.Eng.l_take_nil, @Nat.zero_le⟩⟩, ⟨@Nat.le_refl, ⟨@Nat.zero_add, @Nat.add_zero⟩⟩⟩, ⟨⟨@Bool.false_eq_true, ⟨@Bool.true_eq_false, @false_implies⟩⟩, ⟨@Go.Eng.getO_nil, ⟨@Go.Eng.getO_hit, @Go.Eng.getO_next⟩⟩⟩⟩, ⟨⟨⟨@Go.Eng.otl_nil, ⟨@Go.Eng.otl_cons, @Go.Eng.ots_nil⟩⟩, ⟨@Go.Eng.ots_hit, ⟨@Go.Eng.ots_next, @imp_self⟩⟩⟩, ⟨⟨@Go.Eng.findC_hit, ⟨@Go.Eng.findC_nil, @Go.Eng.findC_next⟩⟩, ⟨⟨@Go.Eng.setT_nil', @Go.Eng.setT_zero⟩, ⟨@Go.Eng.setT_succ, @Go.Eng.put_some⟩⟩⟩⟩⟩⟩, ⟨⟨⟨⟨⟨@Go.Eng.put_none, ⟨@Go.Eng.enter_eq, @Go.Eng.up_c⟩⟩, ⟨@Go.Eng.up_agg, ⟨@Go.Eng.up_int, @Go.Eng.up_bool⟩⟩⟩, ⟨⟨@Go.Eng.up_str, ⟨@Go.Eng.up_ptr, @Go.Eng.up_sl⟩⟩, ⟨@Go.Eng.up_clo, ⟨@Go.Eng.up_raw, @Go.Eng.up_mk⟩⟩⟩⟩, ⟨⟨⟨@Go.Eng.l_map_cons, ⟨@Go.Eng.l_map_nil, @Go.Eng.l_cons_append⟩⟩, ⟨@Go.Eng.l_nil_append, ⟨@Go.Eng.l_length_cons, @Go.Eng.l_length_nil⟩⟩⟩, ⟨⟨@Go.Eng.l_rep_succ, ⟨@Go.Eng.l_rep_zero, @true_and⟩⟩, ⟨@and_true, ⟨@Bool.true_and, @Bool.and_true⟩⟩⟩⟩⟩, ⟨⟨⟨⟨@Bool.false_and, ⟨@Bool.and_false, @Go.Eng.dn_c⟩⟩, ⟨@Go.Eng.dn_agg, ⟨@Go.Eng.dn_tup, @Go.Eng.dn_int⟩⟩⟩, ⟨⟨@Go.Eng.dn_bool, ⟨@Go.Eng.dn_str, @Go.Eng.dn_ptr⟩⟩, ⟨@Go.Eng.dn_sl, ⟨@Go.Eng.dn_clo, @Go.Eng.dn_raw⟩⟩⟩⟩, ⟨⟨⟨@Go.Eng.look_nil, ⟨@Go.Eng.look_loc, @Go.Eng.look_outG⟩⟩, ⟨@Go.Eng.outG_nil, ⟨@Go.Eng.outG_cons, @Go.Eng.nx_mk⟩⟩⟩, ⟨⟨@Go.Eng.alloc_mk, ⟨@Go.Eng.setRg_loc, @Go.Eng.setRg_out⟩⟩, ⟨⟨@Go.Eng.setG_nil', @Go.Eng.setG_zero⟩, ⟨@Go.Eng.setG_succ, @Go.Eng.setO_nil'⟩⟩⟩⟩⟩⟩⟩, ⟨⟨⟨⟨⟨⟨@Go.Eng.setO_cons', ⟨@Go.Eng.cells_c, @Go.Eng.cells_agg⟩⟩, ⟨@Go.Eng.noTup_c, ⟨@Go.Eng.noTup_agg, @Go.Eng.isAgg_c⟩⟩⟩, ⟨⟨@Go.Eng.isAgg_agg, ⟨@Go.Eng.rows_up, @Go.Eng.rows_dn⟩⟩, ⟨@Go.Eng.rows_ren, ⟨@Go.Eng.mapLL_nil, @Go.Eng.mapLL_cons⟩⟩⟩⟩, ⟨⟨⟨@Go.Eng.map_enc_up, ⟨@Go.Eng.map_enc_dn, @Go.Eng.map_enc_ren⟩⟩, ⟨@Go.Eng.enc_dn, ⟨@Go.Eng.enc_ren, @Go.Eng.enc_up⟩⟩⟩, ⟨⟨@Go.Eng.win_whole, ⟨@Go.Eng.win_zero, @Go.Eng.atG_rows⟩⟩, ⟨@Go.Eng.atG_none, ⟨@Go.Eng.atG_arr, @Go.Eng.putAt_end⟩⟩⟩⟩⟩, ⟨⟨⟨⟨@Go.Eng.l_set_zero, ⟨@Go.Eng.l_set_succ, @Go.Eng.row_up⟩⟩, ⟨@Go.Eng.RowOk_up, ⟨@Go.Eng.row_zero, @Go.Eng.row_rows⟩⟩⟩, ⟨⟨@Go.Eng.RowOk_rows, ⟨@Go.Eng.RowOk_none, @Go.Eng.AA.up_r⟩⟩, ⟨@Go.Eng.AA.up_i, ⟨@Go.Eng.AA.up_k, @Go.Eng.AA.up_f⟩⟩⟩⟩, ⟨⟨⟨@Go.Eng.enc_int, ⟨@Go.Eng.enc_bool, @Go.Eng.enc_str⟩⟩, ⟨@Go.Eng.enc_u8, ⟨@Go.Eng.sz_int, @Go.Eng.sz_bool⟩⟩⟩, ⟨⟨@Go.Eng.sz_str, ⟨@Go.Eng.sz_u8, @Go.Eng.map_dec_enc⟩⟩, ⟨⟨@Go.Eng.allEnc_enc, @Go.Eng.row_length⟩, ⟨@Go.Eng.rowG_eq, @Go.Eng.o_map_some⟩⟩⟩⟩⟩⟩, ⟨⟨⟨⟨⟨@Go.Eng.o_map_none, ⟨@Go.Eng.dn_box, @Go.Eng.AA.dn_mk⟩⟩, ⟨@Go.Eng.AA.dn_up, ⟨@Go.Eng.dn_out, @Go.Eng.dn_nil⟩⟩⟩, ⟨⟨@Go.Eng.dn_loc, ⟨@Go.Eng.up_box, @Go.Eng.up_arr⟩⟩, ⟨@Go.Eng.slots_n, ⟨@Go.Eng.slots_c, @Go.Eng.l_getD_nil⟩⟩⟩⟩, ⟨⟨⟨@Go.Eng.curK_box, ⟨@Go.Eng.CurOk_eq, @Go.Eng.pick_or⟩⟩, ⟨@Go.Eng.pick_and, ⟨@Bool.not_not, @Bool.true_or⟩⟩⟩, ⟨⟨@Bool.or_true, ⟨@Bool.false_or, @Bool.or_false⟩⟩, ⟨⟨@Bool.not_true, @Bool.not_false⟩, ⟨@Go.Eng.nilO_tmp, @Go.Eng.nilO_int⟩⟩⟩⟩⟩, ⟨⟨⟨⟨@Go.Eng.nilO_bool, ⟨@Go.Eng.nilO_str, @Go.Eng.nilO_sl⟩⟩, ⟨@Go.Eng.eqA_some, ⟨@Go.Eng.eqCs_nil, @Go.Eng.eqCs_int⟩⟩⟩, ⟨⟨@Go.Eng.eqCs_bool, ⟨@Go.Eng.eqCs_str, @Go.Eng.enc_t3⟩⟩, ⟨@Go.Eng.sz_t3, ⟨@Go.Eng.and_pure, @Go.Eng.and_eff⟩⟩⟩⟩, ⟨⟨⟨@Go.Eng.specR_rows, ⟨@Go.Eng.specR_none, @Go.Eng.clsK_nil⟩⟩, ⟨@Go.Eng.clsK_cons, ⟨@Go.Eng.box1_box, @Go.Eng.boxS_box⟩⟩⟩, ⟨⟨@Go.Eng.mark1_length, ⟨@Go.Eng.mark3_length, @Go.Eng.markB_length⟩⟩, ⟨⟨@Go.Eng.enc_tr, @Go.Eng.sz_tr⟩, ⟨@Go.Eng.markS_length, @Go.Eng.markR_length⟩⟩⟩⟩⟩⟩⟩⟩
theorem WL : ((((((type_of% @Go.Eng.enc_t3) ∧ (type_of% @Go.Eng.sz_t3)) ∧ ((type_of% @Go.Eng.enc_tr) ∧ ((type_of% @Go.Eng.sz_tr) ∧ (type_of% @or_self)))) ∧ (((type_of% @or_false) ∧ (type_of% @Nat.zero_add)) ∧ ((type_of% @or_true) ∧ ((type_of% @false_or) ∧ (type_of% @not_false_eq_true))))) ∧ ((((type_of% @Go.Eng.look_loc) ∧ (type_of% @Go.Eng.look_nil)) ∧ ((type_of% @Go.Eng.slots_nil) ∧ ((type_of% @Go.Eng.slots_cons) ∧ (type_of% @Go.Eng.RgLe_rows)))) ∧ (((type_of% @Go.Eng.rows_ren) ∧ (type_of% @Go.Eng.map_enc_ren)) ∧ ((type_of% @Go.Eng.enc_ren) ∧ ((type_of% @Go.Eng.rows_cl) ∧ (type_of% @Go.Eng.allCl_nil)))))) ∧ (((((type_of% @Go.Eng.allCl_cons) ∧ (type_of% @Go.Eng.allCl_append)) ∧ ((type_of% @Go.Eng.allCl_enc) ∧ ((type_of% @Go.Eng.allCl_rep) ∧ (type_of% @Go.Eng.allCl_setE)))) ∧ (((type_of% @Go.Eng.allCl_take) ∧ (type_of% @Go.Eng.allCl_drop)) ∧ ((type_of% @Go.Eng.prefix_self) ∧ ((type_of% @Go.Eng.enc_cl) ∧ (type_of% @Go.Eng.sz_int))))) ∧ ((((type_of% @Go.Eng.sz_bool) ∧ (type_of% @Go.Eng.sz_str)) ∧ ((type_of% @Go.Eng.sz_u8) ∧ ((type_of% @Go.Eng.enc_int) ∧ (type_of% @Go.Eng.enc_bool)))) ∧ (((type_of% @Go.Eng.enc_str) ∧ (type_of% @Go.Eng.enc_u8)) ∧ ((type_of% @Go.Eng.AA.mk.injEq) ∧ ((type_of% @Go.Eng.RId.loc.injEq) ∧ (type_of% @Go.Eng.RId.out.injEq))))))) ∧ ((((((type_of% @imp_self) ∧ (type_of% @true_and)) ∧ ((type_of% @and_true) ∧ ((type_of% @Go.Eng.RgLe_box) ∧ (type_of% @Go.Eng.ren_box)))) ∧ (((type_of% @Go.Eng.cl_box) ∧ (type_of% @Go.Eng.AA.ren_mk)) ∧ ((type_of% @Go.Eng.AA.ren_up) ∧ ((type_of% @Go.Eng.ren_out) ∧ (type_of% @Go.Eng.ren_nil))))) ∧ ((((type_of% @Go.Eng.ren_loc) ∧ (type_of% @Go.Eng.cl_out)) ∧ ((type_of% @Go.Eng.cl_nil) ∧ ((type_of% @Go.Eng.cl_loc) ∧ (type_of% @Go.Eng.AA.up_r)))) ∧ (((type_of% @Go.Eng.AA.up_i) ∧ (type_of% @Go.Eng.AA.up_k)) ∧ ((type_of% @Go.Eng.AA.up_f) ∧ ((type_of% @Go.Eng.look_outG) ∧ (type_of% @Go.Eng.outG_nil)))))) ∧ (((((type_of% @Go.Eng.outG_cons) ∧ (type_of% @Go.Eng.findO_nil')) ∧ ((type_of% @Go.Eng.findO_cons') ∧ ((type_of% @Go.Eng.o_map_some) ∧ (type_of% @Go.Eng.o_map_none)))) ∧ (((type_of% @Go.Eng.up_box) ∧ (type_of% @Go.Eng.l_map_cons)) ∧ ((type_of% @Go.Eng.l_map_nil) ∧ ((type_of% @Go.Eng.up_int) ∧ (type_of% @Go.Eng.up_bool))))) ∧ ((((type_of% @Go.Eng.up_str) ∧ (type_of% @Go.Eng.up_ptr)) ∧ ((type_of% @Go.Eng.up_sl) ∧ ((type_of% @Go.Eng.up_clo) ∧ (type_of% @Go.Eng.up_raw)))) ∧ (((type_of% @Go.Eng.rows_up) ∧ (type_of% @Go.Eng.map_enc_up)) ∧ ((type_of% @Go.Eng.l_append_nil) ∧ ((type_of% @Bool.true_eq_false) ∧ (type_of% @Bool.false_eq_true))))))) :=
  ⟨⟨⟨⟨⟨⟨@Go.Eng.enc_t3, @Go.Eng.sz_t3⟩, ⟨@Go.Eng.enc_tr, ⟨@Go.Eng.sz_tr, @or_self⟩⟩⟩, ⟨⟨@or_false, @Nat.zero_add⟩, ⟨@or_true, ⟨@false_or, @not_false_eq_true⟩⟩⟩⟩, ⟨⟨⟨@Go.Eng.look_loc, @Go.Eng.look_nil⟩, ⟨@Go.Eng.slots_nil, ⟨@Go.Eng.slots_cons, @Go.Eng.RgLe_rows⟩⟩⟩, ⟨⟨@Go.Eng.rows_ren, @Go.Eng.map_enc_ren⟩, ⟨@Go.Eng.enc_ren, ⟨@Go.Eng.rows_cl, @Go.Eng.allCl_nil⟩⟩⟩⟩⟩, ⟨⟨⟨⟨@Go.Eng.allCl_cons, @Go.Eng.allCl_append⟩, ⟨@Go.Eng.allCl_enc, ⟨@Go.Eng.allCl_rep, @Go.Eng.allCl_setE⟩⟩⟩, ⟨⟨@Go.Eng.allCl_take, @Go.Eng.allCl_drop⟩, ⟨@Go.Eng.prefix_self, ⟨@Go.Eng.enc_cl, @Go.Eng.sz_int⟩⟩⟩⟩, ⟨⟨⟨@Go.Eng.sz_bool, @Go.Eng.sz_str⟩, ⟨@Go.Eng.sz_u8, ⟨@Go.Eng.enc_int, @Go.Eng.enc_bool⟩⟩⟩, ⟨⟨@Go.Eng.enc_str, @Go.Eng.enc_u8⟩, ⟨@Go.Eng.AA.mk.injEq, ⟨@Go.Eng.RId.loc.injEq, @Go.Eng.RId.out.injEq⟩⟩⟩⟩⟩⟩, ⟨⟨⟨⟨⟨@imp_self, @true_and⟩, ⟨@and_true, ⟨@Go.Eng.RgLe_box, @Go.Eng.ren_box⟩⟩⟩, ⟨⟨@Go.Eng.cl_box, @Go.Eng.AA.ren_mk⟩, ⟨@Go.Eng.AA.ren_up, ⟨@Go.Eng.ren_out, @Go.Eng.ren_nil⟩⟩⟩⟩, ⟨⟨⟨@Go.Eng.ren_loc, @Go.Eng.cl_out⟩, ⟨@Go.Eng.cl_nil, ⟨@Go.Eng.cl_loc, @Go.Eng.AA.up_r⟩⟩⟩, ⟨⟨@Go.Eng.AA.up_i, @Go.Eng.AA.up_k⟩, ⟨@Go.Eng.AA.up_f, ⟨@Go.Eng.look_outG, @Go.Eng.outG_nil⟩⟩⟩⟩⟩, ⟨⟨⟨⟨@Go.Eng.outG_cons, @Go.Eng.findO_nil'⟩, ⟨@Go.Eng.findO_cons', ⟨@Go.Eng.o_map_some, @Go.Eng.o_map_none⟩⟩⟩, ⟨⟨@Go.Eng.up_box, @Go.Eng.l_map_cons⟩, ⟨@Go.Eng.l_map_nil, ⟨@Go.Eng.up_int, @Go.Eng.up_bool⟩⟩⟩⟩, ⟨⟨⟨@Go.Eng.up_str, @Go.Eng.up_ptr⟩, ⟨@Go.Eng.up_sl, ⟨@Go.Eng.up_clo, @Go.Eng.up_raw⟩⟩⟩, ⟨⟨@Go.Eng.rows_up, @Go.Eng.map_enc_up⟩, ⟨@Go.Eng.l_append_nil, ⟨@Bool.true_eq_false, @Bool.false_eq_true⟩⟩⟩⟩⟩⟩⟩
theorem WB : ((((type_of% @Go.Eng.pick_or) ∧ ((type_of% @Go.Eng.pick_and) ∧ (type_of% @Go.Eng.bT_or))) ∧ (((type_of% @Go.Eng.bF_or) ∧ (type_of% @Go.Eng.bT_and)) ∧ ((type_of% @Go.Eng.bF_and) ∧ (type_of% @Go.Eng.bT_not)))) ∧ ((((type_of% @Go.Eng.bF_not) ∧ (type_of% @Go.Eng.bT_dec)) ∧ ((type_of% @Go.Eng.bF_dec) ∧ (type_of% @Go.Eng.f_dec))) ∧ (((type_of% @Go.Eng.t_dec) ∧ (type_of% @Go.Eng.d_dec)) ∧ ((type_of% @Go.Eng.b_dec) ∧ (type_of% @true_iff))))) ∧ (((((type_of% @iff_true) ∧ (type_of% @false_iff)) ∧ ((type_of% @iff_false) ∧ (type_of% @Bool.not_not))) ∧ (((type_of% @Bool.true_eq_false) ∧ (type_of% @Bool.false_eq_true)) ∧ ((type_of% @or_false) ∧ (type_of% @false_or)))) ∧ ((((type_of% @and_true) ∧ (type_of% @true_and)) ∧ ((type_of% @or_true) ∧ (type_of% @true_or))) ∧ (((type_of% @and_false) ∧ (type_of% @false_and)) ∧ ((type_of% @not_true_eq_false) ∧ (type_of% @not_false_eq_true))))) :=
  ⟨⟨⟨⟨@Go.Eng.pick_or, ⟨@Go.Eng.pick_and, @Go.Eng.bT_or⟩⟩, ⟨⟨@Go.Eng.bF_or, @Go.Eng.bT_and⟩, ⟨@Go.Eng.bF_and, @Go.Eng.bT_not⟩⟩⟩, ⟨⟨⟨@Go.Eng.bF_not, @Go.Eng.bT_dec⟩, ⟨@Go.Eng.bF_dec, @Go.Eng.f_dec⟩⟩, ⟨⟨@Go.Eng.t_dec, @Go.Eng.d_dec⟩, ⟨@Go.Eng.b_dec, @true_iff⟩⟩⟩⟩, ⟨⟨⟨⟨@iff_true, @false_iff⟩, ⟨@iff_false, @Bool.not_not⟩⟩, ⟨⟨@Bool.true_eq_false, @Bool.false_eq_true⟩, ⟨@or_false, @false_or⟩⟩⟩, ⟨⟨⟨@and_true, @true_and⟩, ⟨@or_true, @true_or⟩⟩, ⟨⟨@and_false, @false_and⟩, ⟨@not_true_eq_false, @not_false_eq_true⟩⟩⟩⟩⟩
end Go.Eng

namespace Go.Eng
open Cel (enc dec)

/-! ### a body's end, told otherwise -/
def endX (P : Program) (rs : List ResultVar) (M : RId → Option Rg) {ι : Type} (cond : ι → Prop) (val : ι → AV) (new : ι → List Rg) (upd : ι → List (RId × Rg)) (e : Exit) (S' : St) : Prop :=
  (match e with
    | .normal | .ret => True
    | _ => False) ∧
  exitVC P rs S' fun av => ∃ (S2 : St) (av2 : AV), LeV S' av S2 av2 ∧ ∃ (p : ι) (gs : List (Nat × Nat)) (τ : List Nat), retP M cond val new upd S2 p gs τ av2
theorem endX_ret {P : Program} {rs : List ResultVar} {M : RId → Option Rg} {ι : Type} {cond : ι → Prop} {val : ι → AV} {new : ι → List Rg} {upd : ι → List (RId × Rg)} {S : St}
    (h : exitVC P rs S fun av => ∃ (S2 : St) (av2 : AV), LeV S av S2 av2 ∧ ∃ (p : ι) (gs : List (Nat × Nat)) (τ : List Nat), retP M cond val new upd S2 p gs τ av2) :
    endX P rs M cond val new upd .ret S := ⟨trivial, h⟩
theorem endX_nrm {P : Program} {rs : List ResultVar} {M : RId → Option Rg} {ι : Type} {cond : ι → Prop} {val : ι → AV} {new : ι → List Rg} {upd : ι → List (RId × Rg)} {S : St}
    (h : endX P rs M cond val new upd .ret S) : endX P rs M cond val new upd .normal S := h

section
variable {P : Program}
theorem enter_mt {W : Nat → Prop} {fn : Func} {args : List AV} {M : RId → Option Rg} {ρ0 : Env} {w : World} {vs : List Value} (hin : ∀ ρ, Agree M ρ0 ρ → MemOk W w.heap.size ρ M w ∧ Args ρ args vs) :
    ∃ ρ1 : Env, (∀ x, (∀ i, ρ1.blk (.out x) i = ρ0.blk x i) ∧ (∀ i, ρ1.base (.out x) i = ρ0.base x i) ∧ ρ1.sz (.out x) = ρ0.sz x) ∧
      Mt W w ρ1 (St.enter fn.ntmps args M) { tmps := vs.toArray ++ Array.replicate (fn.ntmps - vs.toArray.size) undef, defers := [] } w := by
  let ρ1 : Env := ⟨fun x i => match x with | .out y => ρ0.blk y i | _ => 0, fun x i => match x with | .out y => ρ0.base y i | _ => 0, fun x => match x with | .out y => ρ0.sz y | _ => 0⟩
  refine ⟨ρ1, fun x => ⟨fun _ => rfl, fun _ => rfl, rfl⟩, ?_⟩
  have hlen := Args_length (hin ρ0 (Agree.refl _ _)).2
  intro ρ hρ
  have hag : Agree M ρ0 (ρ.pull .out) := fun x g e => by
    have := hρ (.out x) g.up (by rw [look_enter]; simp [e])
    exact ⟨fun i => this.blk i, fun i => this.base i, this.sz⟩
  obtain ⟨hM, hA⟩ := hin _ hag
  have hlk : ∀ x g, (St.enter fn.ntmps args M).look x = some g → ∃ y g0, x = .out y ∧ M y = some g0 ∧ g = g0.map .out := by
    intro x g e
    rw [look_enter] at e
    cases x with
    | out y =>
      cases hy : M y with
      | none => simp [hy] at e
      | some g0 => simp [hy] at e; exact ⟨y, g0, rfl, hy, by rw [← e, Rg.up_map]⟩
    | _ => cases e
  refine ⟨⟨fun x g e => ?_, fun x g i x' g' i' e ho hh e' hh' hne => ?_, fun x g i e ho hh => ?_, fun x g i e hh => ?_⟩, ⟨rfl, rfl, rfl, Nat.le_refl _, fun _ _ _ => rfl⟩, ?_, fun t s e => ?_, rfl⟩
  · obtain ⟨y, g0, rfl, hy, rfl⟩ := hlk x g e
    exact RegOk_map.2 (hM.regs y g0 hy)
  · obtain ⟨y, g0, rfl, hy, rfl⟩ := hlk x g e
    obtain ⟨y', g0', rfl, hy', rfl⟩ := hlk x' g' e'
    exact hM.dis y g0 i y' g0' i' hy (by rwa [Rg.own_map] at ho) ((Rg.has_map _ _ _).1 hh) hy' ((Rg.has_map _ _ _).1 hh') (hne.imp (fun h e => h (by rw [e])) id)
  · obtain ⟨y, g0, rfl, hy, rfl⟩ := hlk x g e
    exact hM.wr y g0 i hy (by rwa [Rg.own_map] at ho) ((Rg.has_map _ _ _).1 hh)
  · obtain ⟨y, g0, rfl, hy, rfl⟩ := hlk x g e
    exact hM.lt y g0 i hy ((Rg.has_map _ _ _).1 hh)
  · simp [St.enter, hlen]
  · cases s with
    | un => trivial
    | v g b =>
      simp only [St.enter] at e
      rcases Nat.lt_or_ge t args.length with ht | ht
      · rw [List.getElem?_append_left (by simpa using ht), List.getElem?_map] at e
        cases ha : args[t]? with
        | none => simp [ha] at e
        | some a =>
          simp [ha] at e
          obtain ⟨rfl, rfl⟩ := e
          obtain ⟨v, ev, hv⟩ := Args_get hA t a ha
          have hvt : (vs.toArray ++ Array.replicate (fn.ntmps - vs.toArray.size) undef).getD t undef = v := by
            have hlt : t < vs.length := by omega
            rw [Array.getD_eq_getD_getElem?, Array.getElem?_append_left (by simpa using hlt)]
            simp [ev]
          refine ⟨fun _ => ?_, fun h => by cases h⟩
          rw [hvt, AV.up_map]
          exact AV.Is_map.2 hv
      · rw [List.getElem?_append_right (by simpa using ht)] at e
        rw [List.getElem?_replicate] at e
        split at e <;> simp at e
theorem goInX {C : List Contract} {f : FuncId} {fn : Func} {code : Code} (hf : P.funcs[f]? = some fn) (hb : fn.body = some code) {nt : Nat} (hnt : fn.ntmps = nt) {rs : List ResultVar} (hrs : fn.results.toList = rs)
    (hC : okL P C) {O : Nat → OT} {q : FuncId → Bool} (hq : okQ q C) (hm : P.follows .mixedOrders = true) (hok : okB P q O code = true)
    {args : List AV} {M : RId → Option Rg} {ι : Type} {cond : ι → Prop} {val : ι → AV} {new : ι → List Rg} {upd : ι → List (RId × Rg)}
    (h : vc P C O code (endX P rs M cond val new upd) (St.enter nt args M)) : CallOK P f args M ι cond val new upd := by
  have hok := okC_of hm (okL_mem hC) (okQ_mem hq) code hok
  have hC := okL_mem hC
  intro W ρ0 w vs hnil hin
  subst hnt hrs
  refine calls_of_wp hf hb ?_
  obtain ⟨ρ1, hout, hm⟩ := enter_mt (fn := fn) hin
  refine vc_sound hC code hok h hm fun e a' w' hA => ?_
  obtain ⟨ρ2, S0, h1, h2, h3, h4⟩ := hA
  obtain ⟨av0, v, ⟨S', av, hle, p, gs, τ, k1, k2', ⟨kav, k3⟩, k4⟩, hr, hv⟩ := exit_sound h2 h4
  obtain ⟨ρ3, l1, l2, l3⟩ := hle W w ρ2 a' w' h2
  have k2 : ToM τ (S'.gh gs) ⟨[], M, upd p, new p⟩ := ToM_iff.2 k2'
  obtain ⟨ρ4, g1, g2, g3⟩ := Mt_gh gs l2
  have hfin : a'.defers = [] ∧ ∃ v, (results fn a'.tmps).run P w' = .ok v w' ∧ ∃ p ρ' v', cond p ∧ Ending.returned v = .returned v' ∧ Fr W w w' ∧
      (∀ x i, ρ'.blk (.out x) i = ρ0.blk x i) ∧ (∀ x i, ρ'.base (.out x) i = ρ0.base x i) ∧ (∀ x, ρ'.sz (.out x) = ρ0.sz x) ∧
      (∀ p' ∈ upd p, (M p'.1).isSome) ∧
      ∀ ρ, Agree (aft M (upd p) (new p)) ρ' ρ → MemOk W w.heap.size ρ (aft M (upd p) (new p)) w' ∧ (val p).Is ρ v' := by
    have R := h2 ρ2 (Agree.refl _ _)
    have h1 := fun x => ((h1 x).trans (l1 x)).trans (g1 x)
    refine ⟨R.defers, v, hr, p, ρ4.pull (RId.ren τ), v, k1, rfl, R.fr, fun x i => (((h1 x).blk i).symm).trans ((hout x).1 i), fun x i => (((h1 x).base i).symm).trans ((hout x).2.1 i), fun x => (((h1 x).sz).symm).trans (hout x).2.2, okU_mem k4, fun ρ hρ => ?_⟩
    rw [← look_aft] at hρ ⊢
    obtain ⟨q1, q2⟩ := ToM_sound k2 (fun ρ3 h3 => (g3 ρ3 h3).mem) hρ
    refine ⟨q1, ?_⟩
    have := AV.eqv_Is kav (l3 v hv _ fun x g e => (g2 x g e).trans (q2 x g (gh_look e)))
    rw [AV.ren_map] at this
    exact AV.Is_cl (back_in k2.nodup) k3 (AV.Is_map.1 this)
  cases e <;> first | exact hfin | exact h3.elim
end

/-! ### families of rows -/
section
variable {α : Type}
theorem nest_nil (q : RId) : nestC q ([] : List (Nat × List α)) = [] := Eq.trans rfl rfl
theorem nest_get (q : RId) {F : List (Nat × List α)} {k : Nat} (h : k < F.length) : (nestC q F).getD k [] = [.sl ⟨q, k, 0, 0⟩ (F.getD k default).2.length (F.getD k default).1] := by
  rw [List.getD_eq_getElem?_getD, nest_getq, List.getD_eq_getElem?_getD, List.getElem?_eq_getElem h]; rfl
theorem nest_map (f : List AC → List AC) (q q' : RId) (F : List (Nat × List α)) (h : ∀ i l c, i < F.length → f [.sl ⟨q, i, 0, 0⟩ l c] = [.sl ⟨q', i, 0, 0⟩ l c]) : (nestC q F).map f = nestC q' F := by
  refine List.ext_getElem? fun k => ?_
  rw [List.getElem?_map, nest_getq, nest_getq]
  cases hk : F[k]? with
  | none => rfl
  | some p => simp [h k _ _ (List.getElem?_eq_some_iff.1 hk).1]
theorem nest_up (q : RId) (F : List (Nat × List α)) : (nestC q F).map (List.map AC.up) = nestC (.out q) F := nest_map _ _ _ _ fun _ _ _ _ => rfl
theorem nest_dn (n : Nat) (q : RId) (F : List (Nat × List α)) : (nestC q F).map (dnl n) = nestC (q.dn n) F := nest_map _ _ _ _ fun _ _ _ _ => rfl
theorem nest_ren (τ : List Nat) (q : RId) (F : List (Nat × List α)) : (nestC q F).map (renl τ) = nestC (q.ren τ) F := nest_map _ _ _ _ fun _ _ _ _ => rfl
theorem nest_cl {n : Nat} {q : RId} {F : List (Nat × List α)} (h : q.cl n) : allCl n (nestC q F) = True := by
  refine eq_true fun cs hcs => ?_
  obtain ⟨i, hi⟩ := List.mem_iff_getElem?.1 hcs
  rw [nest_getq] at hi
  cases hk : F[i]? with
  | none => simp [hk] at hi
  | some p =>
    simp [hk] at hi
    subst hi
    exact ⟨.inr h, trivial⟩
theorem nest_sw_ne {j i0 j2 q : Nat} {F : List (Nat × List α)} (h1 : q ≠ j) (h2 : q ≠ j2) : (nestC (.loc q) F).map (swl j i0 j2) = nestC (.loc q) F := nest_map _ _ _ _ fun i l c _ => by
  simp [swl, AC.sw, swA, sw, h1, h2]
theorem nest_sw_out {j i0 j2 : Nat} {q : RId} {F : List (Nat × List α)} : (nestC (.out q) F).map (swl j i0 j2) = nestC (.out q) F := nest_map _ _ _ _ fun i l c _ => by
  simp [swl, AC.sw, swA, sw]
theorem nest_take (q : RId) (F : List (Nat × List α)) (i : Nat) : nestC q (F.take i) = (nestC q F).take i := by
  refine List.ext_getElem? fun k => ?_
  rw [nest_getq, List.getElem?_take, List.getElem?_take]
  split
  · rw [nest_getq]
  · rfl
theorem nest_set (q : RId) {F : List (Nat × List α)} {i c : Nat} {X : List α} : (nestC q F).set i [.sl ⟨q, i, 0, 0⟩ X.length c] = nestC q (F.set i (c, X)) := by
  refine List.ext_getElem? fun k => ?_
  rw [List.getElem?_set, nest_getq, nest_getq, List.getElem?_set, nest_len]
  by_cases e : i = k
  · subst e
    rw [if_pos rfl, if_pos rfl]
    by_cases hi : i < F.length
    · simp [hi]
    · simp [hi]
  · rw [if_neg e, if_neg e]
/-- a new row has come to place i0 -/
theorem nest_sw_set {j i0 j2 : Nat} (hne : j ≠ j2) {F : List (Nat × List α)} {l c : Nat} {X : List α} (hl : X.length = l) :
    ((nestC (.loc j) F).set i0 [.sl ⟨.loc j2, 0, 0, 0⟩ l c]).map (swl j i0 j2) = nestC (.loc j) (F.set i0 (c, X)) := by
  subst hl
  rw [← nest_set]
  refine List.ext_getElem? fun k => ?_
  rw [List.getElem?_map, List.getElem?_set, List.getElem?_set, nest_len]
  by_cases e : i0 = k
  · subst e
    rw [if_pos rfl, if_pos rfl]
    split
    · simp [swl, AC.sw, swA, sw, Ne.symm hne]
    · rfl
  · rw [if_neg e, if_neg e, nest_getq]
    cases F[k]? with
    | none => rfl
    | some p => simp [swl, AC.sw, swA, sw, Ne.symm e, hne]
/-- a new row has been put behind i0 others -/
theorem nest_sw_app {j i0 j2 : Nat} (hne : j ≠ j2) {F : List (Nat × List α)} {l c : Nat} {X : List α} (hl : X.length = l) (hi : i0 < F.length) :
    (nestC (.loc j) (F.take i0) ++ [[AC.sl ⟨.loc j2, 0, 0, 0⟩ l c]]).map (swl j i0 j2) = nestC (.loc j) ((F.set i0 (c, X)).take (i0 + 1)) := by
  subst hl
  rw [List.map_append]
  have h1 : (nestC (.loc j) (F.take i0)).map (swl j i0 j2) = nestC (.loc j) (F.take i0) := nest_map _ _ _ _ fun i l c hi => by
    have : i ≠ i0 := by simp at hi; omega
    simp [swl, AC.sw, swA, sw, this, hne]
  rw [h1]
  refine List.ext_getElem? fun k => ?_
  rw [nest_getq, List.getElem?_take, List.getElem?_set]
  rcases Nat.lt_trichotomy k i0 with h | h | h
  · rw [List.getElem?_append_left (by rw [nest_len]; simp; omega), nest_getq, List.getElem?_take, if_pos h, if_pos (by omega), if_neg (by omega)]
  · subst h
    rw [List.getElem?_append_right (by rw [nest_len]; simp; omega), nest_len]
    simp [hi, swl, AC.sw, swA, sw, Ne.symm hne, Nat.min_eq_left (Nat.le_of_lt hi)]
  · rw [if_neg (by omega), List.getElem?_eq_none]
    · rfl
    · simp [nest_len]; omega
theorem nest_rep {q : RId} {n : Nat} : eqvL (List.replicate n [.sl ⟨.nil, 0, 0, 0⟩ 0 0]) (nestC q (List.replicate n ((0 : Nat), ([] : List α)))) := by
  have key : ∀ {A B : List (List AC)}, A.length = B.length → (∀ k, eqvl (A.getD k []) (B.getD k [])) → eqvL A B := by
    intro A
    induction A with
    | nil => intro B h _; cases B with
      | nil => trivial
      | cons _ _ => simp at h
    | cons a A ih => intro B h k; cases B with
      | nil => simp at h
      | cons b B => exact ⟨by simpa using k 0, ih (by simpa using h) fun i => by simpa using k (i + 1)⟩
  refine key (by simp [nest_len]) fun k => ?_
  rw [List.getD_eq_getElem?_getD, List.getD_eq_getElem?_getD, nest_getq, List.getElem?_replicate, List.getElem?_replicate]
  split
  · exact ⟨⟨rfl, rfl, .inl rfl⟩, trivial⟩
  · trivial
end
theorem eqvL_set {A : List (List AC)} {i : Nat} {c d : List AC} (h : eqvl c d) : eqvL (A.set i c) (A.set i d) := by
  induction A generalizing i with
  | nil => trivial
  | cons a A ih => cases i with
    | zero => exact ⟨h, eqvL_refl _⟩
    | succ i => exact ⟨eqvl_refl _, ih⟩

section
variable {α : Type} [Cel α]
/-- the rows themselves -/
def mems (F : List (Nat × List α)) : List (Nat × List (List AC)) := F.map fun p => (p.1, p.2.map enc)
theorem mems_len (F : List (Nat × List α)) : (mems F).length = F.length := by simp [mems]
theorem mems_nil : mems ([] : List (Nat × List α)) = [] := Eq.trans rfl rfl
theorem mems_getD (F : List (Nat × List α)) (i : Nat) : (mems F).getD i (0, []) = ((F.getD i (0, [])).1, (F.getD i (0, [])).2.map enc) := by
  rw [List.getD_eq_getElem?_getD, mems, List.getElem?_map, List.getD_eq_getElem?_getD]
  cases F[i]? <;> rfl
theorem mems_set {F : List (Nat × List α)} {i c : Nat} {X : List α} : (mems F).set i (c, X.map enc) = mems (F.set i (c, X)) := by
  rw [mems, mems, List.map_set]
theorem mems_rep {n : Nat} : mems (List.replicate n ((0 : Nat), ([] : List α))) = List.replicate n (0, []) := by simp [mems]
theorem mems_map {f : List AC → List AC} (h : ∀ x : α, f (enc x) = enc x) (F : List (Nat × List α)) : mapLL f (mems F) = mems F := by
  rw [mapLL_eq, mems, List.map_map]
  refine List.map_congr_left fun p _ => ?_
  simp only [Function.comp, List.map_map]
  congr 1
  exact List.map_congr_left fun x _ => h x
theorem mems_up (F : List (Nat × List α)) : mapLL (List.map AC.up) (mems F) = mems F := mems_map enc_up F
theorem mems_dn (n : Nat) (F : List (Nat × List α)) : mapLL (dnl n) (mems F) = mems F := mems_map (enc_dn n) F
theorem mems_ren (τ : List Nat) (F : List (Nat × List α)) : mapLL (renl τ) (mems F) = mems F := mems_map (enc_ren τ) F
theorem enc_sw (j i0 j2 : Nat) (x : α) : swl j i0 j2 (enc x) = enc x := by
  have hc : ∀ c : AC, (∀ h, c.map h = c) → c.sw j i0 j2 = c := by
    intro c hc
    cases c with
    | ptr a => have := hc fun _ => .nil; have h2 := hc fun _ => .out .nil; simp [AC.map, AA.map] at this h2; rw [← this] at h2; simp at h2
    | sl a l cap => have := hc fun _ => .nil; have h2 := hc fun _ => .out .nil; simp [AC.map, AA.map] at this h2; rw [← this] at h2; simp at h2
    | clo f caps =>
      cases caps with
      | nil => rfl
      | cons a r => have := hc fun _ => .nil; have h2 := hc fun _ => .out .nil; simp [AC.map, AA.map] at this h2; rw [← this.1] at h2; simp at h2
    | _ => rfl
  rw [swl_map, List.map_congr_left (g := id) fun c hx => hc c (Cel.noClo x c hx)]; simp
theorem mems_sw (j i0 j2 : Nat) (F : List (Nat × List α)) : mapLL (swl j i0 j2) (mems F) = mems F := mems_map (enc_sw j i0 j2) F
theorem map_enc_sw (j i0 j2 : Nat) (L : List α) : (L.map enc).map (swl j i0 j2) = L.map enc := by rw [List.map_map]; exact List.map_congr_left fun x _ => enc_sw j i0 j2 x
theorem mems_cl {n : Nat} {F : List (Nat × List α)} : rowsCl n (mems F) = True := by
  refine eq_true (rowsCl_of.2 fun i _ => ?_)
  rw [mems_getD]
  rw [allCl_enc]; trivial
theorem rowsLe_self {LL : List (Nat × List (List AC))} : rowsLe LL LL = True := eq_true (rowsLe_iff.2 ⟨Nat.le_refl _, fun _ _ => ⟨rfl, List.prefix_refl _⟩⟩)
end
theorem mapLL_rep {f : List AC → List AC} {n : Nat} : mapLL f (List.replicate n (0, [])) = List.replicate n (0, []) := by
  rw [mapLL_eq, List.map_replicate]; rfl
theorem rowsCl_rep {m n : Nat} : rowsCl m (List.replicate n (0, [])) = True := by
  refine eq_true (rowsCl_of.2 fun i _ => ?_)
  rw [List.getD_eq_getElem?_getD, List.getElem?_replicate]
  split <;> exact fun c hc => by simp at hc
theorem rows_sw {j i0 j2 : Nat} {o : Bool} {t s : Nat} {LL : List (Nat × List (List AC))} : (Rg.rows o t s LL).sw j i0 j2 = .rows o t s (mapLL (swl j i0 j2) LL) := by
  unfold Rg.rows
  simp only [Rg.sw, mapLL_getD (swl j i0 j2) rfl, getD_map0 (swl j i0 j2) rfl, List.length_map]
  rw [mapLL_eq, List.length_map]
theorem box_sw {j i0 j2 : Nat} {t : TypeId} {cs : List AC} : (Rg.box t cs).sw j i0 j2 = .box t (swl j i0 j2 cs) := Eq.trans rfl rfl
theorem ac_int_sw {j i0 j2 : Nat} {k : IntKind} {n : Int} : (AC.int k n).sw j i0 j2 = .int k n := Eq.trans rfl rfl
theorem ac_bool_sw {j i0 j2 : Nat} {b : Bool} : (AC.bool b).sw j i0 j2 = .bool b := Eq.trans rfl rfl
theorem ac_str_sw {j i0 j2 : Nat} {b : ByteArray} : (AC.str b).sw j i0 j2 = .str b := Eq.trans rfl rfl
theorem ac_ptr_sw {j i0 j2 : Nat} {a : AA} : (AC.ptr a).sw j i0 j2 = .ptr (swA j i0 j2 a) := Eq.trans rfl rfl
theorem ac_sl_sw {j i0 j2 : Nat} {a : AA} {l c : Nat} : (AC.sl a l c).sw j i0 j2 = .sl (swA j i0 j2 a) l c := Eq.trans rfl rfl
theorem ac_raw_sw {j i0 j2 : Nat} {v : RV} : (AC.raw v).sw j i0 j2 = .raw v := Eq.trans rfl rfl
theorem swA_up {j i0 j2 : Nat} {a : AA} : swA j i0 j2 a.up = a.up := Eq.trans rfl rfl
theorem swA_nil {j i0 j2 i k f : Nat} : swA j i0 j2 ⟨.nil, i, k, f⟩ = ⟨.nil, i, k, f⟩ := Eq.trans rfl rfl
theorem swA_out {j i0 j2 : Nat} {x : RId} {i k f : Nat} : swA j i0 j2 ⟨.out x, i, k, f⟩ = ⟨.out x, i, k, f⟩ := Eq.trans rfl rfl
theorem swA_hit {j i0 j2 k f : Nat} : swA j i0 j2 ⟨.loc j, i0, k, f⟩ = ⟨.loc j2, 0, k, f⟩ := by simp [swA, sw]
theorem swA_new {j i0 j2 k f : Nat} (h : (j2 = j) = False) : swA j i0 j2 ⟨.loc j2, 0, k, f⟩ = ⟨.loc j, i0, k, f⟩ := by
  have h : ¬ j2 = j := by rw [h]; exact not_false
  simp [swA, sw, h]
theorem swA_ne {j i0 j2 q i k f : Nat} (h1 : (q = j) = False) (h2 : (q = j2) = False) : swA j i0 j2 ⟨.loc q, i, k, f⟩ = ⟨.loc q, i, k, f⟩ := by
  have h1 : ¬ q = j := by rw [h1]; exact not_false
  have h2 : ¬ q = j2 := by rw [h2]; exact not_false
  simp [swA, sw, h1, h2]
theorem av_c_sw {j i0 j2 : Nat} {x : AC} : (AV.c x).sw j i0 j2 = .c (x.sw j i0 j2) := Eq.trans rfl rfl
theorem av_agg_sw {j i0 j2 : Nat} {x : List AC} : (AV.agg x).sw j i0 j2 = .agg (swl j i0 j2 x) := Eq.trans rfl rfl
theorem av_tup_sw {j i0 j2 : Nat} {x : List (Bool × List AC)} : (AV.tup x).sw j i0 j2 = .tup (swt j i0 j2 x) := Eq.trans rfl rfl
theorem swl_nil {j i0 j2 : Nat} : swl j i0 j2 [] = [] := Eq.trans rfl rfl
theorem swl_cons {j i0 j2 : Nat} {c : AC} {cs : List AC} : swl j i0 j2 (c :: cs) = c.sw j i0 j2 :: swl j i0 j2 cs := Eq.trans rfl rfl
theorem swt_nil {j i0 j2 : Nat} : swt j i0 j2 [] = [] := Eq.trans rfl rfl
theorem swt_cons {j i0 j2 : Nat} {b : Bool} {c : List AC} {cs : List (Bool × List AC)} : swt j i0 j2 ((b, c) :: cs) = (b, swl j i0 j2 c) :: swt j i0 j2 cs := Eq.trans rfl rfl
theorem swT_nil {j i0 j2 : Nat} : swT j i0 j2 [] = [] := Eq.trans rfl rfl
theorem swT_un {j i0 j2 : Nat} {r : List Sl} : swT j i0 j2 (.un :: r) = .un :: swT j i0 j2 r := Eq.trans rfl rfl
theorem swT_v {j i0 j2 : Nat} {g : Bool} {a : AV} {r : List Sl} : swT j i0 j2 (.v g a :: r) = .v g (a.sw j i0 j2) :: swT j i0 j2 r := Eq.trans rfl rfl
theorem swR_nil {j i0 j2 : Nat} : swR j i0 j2 [] = [] := Eq.trans rfl rfl
theorem swR_cons {j i0 j2 : Nat} {g : Rg} {r : List Rg} : swR j i0 j2 (g :: r) = g.sw j i0 j2 :: swR j i0 j2 r := Eq.trans rfl rfl
theorem swO_nil {j i0 j2 : Nat} : swO j i0 j2 [] = [] := Eq.trans rfl rfl
theorem swO_cons {j i0 j2 : Nat} {x : RId} {g : Rg} {r : List (RId × Rg)} : swO j i0 j2 ((x, g) :: r) = (x, g.sw j i0 j2) :: swO j i0 j2 r := Eq.trans rfl rfl
theorem swp_mk {T : List Sl} {M : RId → Option Rg} {ov : List (RId × Rg)} {L : List Rg} {j i0 j2 : Nat} {o : Bool} {t s : Nat} {LL : List (Nat × List (List AC))} {c : Nat} {X : List (List AC)} :
    St.swp ⟨T, M, ov, L⟩ j i0 j2 o t s LL c X = ⟨swT j i0 j2 T, M, swO j i0 j2 ov, setG (setG (swR j i0 j2 L) j (.rows o t s (mapLL (swl j i0 j2) (LL.set i0 (c, X))))) j2 (.rows o t s (mapLL (swl j i0 j2) [LL.getD i0 (0, [])]))⟩ := Eq.trans rfl rfl

/-! ### rows of rows that came in -/
def slc : List AC → AA × Nat × Nat
  | [.sl a n c] => (a, n, c)
  | _ => (⟨.nil, 0, 0, 0⟩, 0, 0)
theorem slc_sl {a : AA} {n c : Nat} : slc [.sl a n c] = (a, n, c) := Eq.trans rfl rfl
theorem slc_up (cs : List AC) : (∃ a n c, cs = [.sl a n c] ∧ slc (cs.map AC.up) = (a.up, n, c) ∧ slc cs = (a, n, c)) ∨ ((¬ ∃ a n c, cs = [.sl a n c]) ∧ slc (cs.map AC.up) = (⟨.nil, 0, 0, 0⟩, 0, 0) ∧ slc cs = (⟨.nil, 0, 0, 0⟩, 0, 0)) := by
  match cs with
  | [] => exact .inr ⟨by simp, rfl, rfl⟩
  | [c] => cases c with
    | sl a n c => exact .inl ⟨a, n, c, rfl, rfl, rfl⟩
    | _ => exact .inr ⟨by simp, rfl, rfl⟩
  | x :: y :: r => exact .inr ⟨by simp, by simp [slc], by simp [slc]⟩
/-- slices lie at a; how long they are is known -/
def Row2W (a : AA) (n : Nat) (o : Option Rg) : Prop := n = 0 ∨ match o with
  | some (.arr _ _ s cnt _ len get) => s = 1 ∧ a.f = 0 ∧ a.i < cnt ∧ a.k + n ≤ len a.i ∧ ∀ k, k < n → get a.i (a.k + k) = [.sl (slc (get a.i (a.k + k))).1 (slc (get a.i (a.k + k))).2.1 (slc (get a.i (a.k + k))).2.2] ∧ (slc (get a.i (a.k + k))).2.1 ≤ 9223372036854775807
  | _ => False
def lens2 (a : AA) (n : Nat) (o : Option Rg) : List Nat := (List.range n).map fun k => (slc (atG a o k)).2.1
theorem lens2_length (a : AA) (n : Nat) (o : Option Rg) : (lens2 a n o).length = n := by simp [lens2]
theorem Row2W.x {a : AA} {n : Nat} {o : Option Rg} (h : Row2W a n o) : ∃ Ls : List Nat, lens2 a n o = Ls ∧ Ls.length = n ∧ (0 < n → ∃ own ty cnt cap len get, ∃ (b : Nat → AA) (c : Nat → Nat), o = some (.arr own ty 1 cnt cap len get) ∧ a.f = 0 ∧ a.i < cnt ∧ a.k + n ≤ len a.i ∧
    ∀ k, k < n → get a.i (a.k + k) = [.sl (b k) (Ls.getD k 0) (c k)] ∧ Ls.getD k 0 ≤ 9223372036854775807) := by
  refine ⟨_, rfl, lens2_length _ _ _, fun h0 => ?_⟩
  have h := h.resolve_left (by omega)
  split at h
  · obtain ⟨rfl, h1, h2, h3, h4⟩ := h
    rename_i own ty cnt cap len get
    refine ⟨_, _, _, _, _, _, fun k => (slc (get a.i (a.k + k))).1, fun k => (slc (get a.i (a.k + k))).2.2, rfl, h1, h2, h3, fun k hk => ?_⟩
    have e : (lens2 a n (some (Rg.arr own ty 1 cnt cap len get))).getD k 0 = (slc (get a.i (a.k + k))).2.1 := by
      rw [List.getD_eq_getElem?_getD, lens2, List.getElem?_map, List.getElem?_range hk]; rfl
    rw [e]
    exact h4 k hk
  · exact h.elim
theorem Row2W_def {a : AA} {n : Nat} {own ty s cnt cap len get} : Row2W a n (some (.arr own ty s cnt cap len get)) = (n = 0 ∨ (s = 1 ∧ a.f = 0 ∧ a.i < cnt ∧ a.k + n ≤ len a.i ∧ ∀ k, k < n → get a.i (a.k + k) = [.sl (slc (get a.i (a.k + k))).1 (slc (get a.i (a.k + k))).2.1 (slc (get a.i (a.k + k))).2.2] ∧ (slc (get a.i (a.k + k))).2.1 ≤ 9223372036854775807)) := Eq.trans rfl rfl
theorem sl_up {cs : List AC} {n c : Nat} {b : AA} : cs.map AC.up = [.sl b n c] ↔ ∃ a, cs = [.sl a n c] ∧ b = a.up := by
  match cs with
  | [] => simp
  | [x] => cases x with
    | sl a l d =>
      constructor
      · intro h
        have h : [AC.sl a.up l d] = [.sl b n c] := h
        simp only [List.cons.injEq, AC.sl.injEq, and_true] at h
        obtain ⟨rfl, rfl, rfl⟩ := h
        exact ⟨a, rfl, rfl⟩
      · rintro ⟨a', h, rfl⟩
        simp only [List.cons.injEq, AC.sl.injEq, and_true] at h
        obtain ⟨rfl, rfl, rfl⟩ := h
        rfl
    | _ => simp [AC.up]
  | _ :: _ :: _ => simp
theorem lens2_up {a : AA} {n : Nat} {o : Option Rg} : lens2 a.up n (o.map Rg.up) = lens2 a n o := by
  cases o with
  | none => rfl
  | some g => cases g with
    | box t cs => rfl
    | arr o t s m c l g =>
      refine List.map_congr_left fun k _ => ?_
      show (slc ((g a.i (a.k + k)).map AC.up)).2.1 = (slc (g a.i (a.k + k))).2.1
      rcases slc_up (g a.i (a.k + k)) with ⟨_, _, _, _, e1, e2⟩ | ⟨_, e1, e2⟩ <;> rw [e1, e2]
theorem Row2W_up {a : AA} {n : Nat} {o : Option Rg} : Row2W a.up n (o.map Rg.up) = Row2W a n o := by
  cases o with
  | none => rfl
  | some g => cases g with
    | box t cs => rfl
    | arr o t s m c l g =>
      rw [Row2W_def]
      show Row2W a.up n (some (.arr o t s m c l fun i k => (g i k).map AC.up)) = _
      rw [Row2W_def]
      rw [eq_iff_iff]
      refine or_congr_right (and_congr_right fun _ => and_congr_right fun _ => and_congr_right fun _ => and_congr_right fun _ => forall_congr' fun k => forall_congr' fun _ => ?_)
      show (g a.i (a.k + k)).map AC.up = [.sl (slc ((g a.i (a.k + k)).map AC.up)).1 (slc ((g a.i (a.k + k)).map AC.up)).2.1 (slc ((g a.i (a.k + k)).map AC.up)).2.2] ∧ (slc ((g a.i (a.k + k)).map AC.up)).2.1 ≤ _ ↔ _
      rcases slc_up (g a.i (a.k + k)) with ⟨b, m, c, e, e1, e2⟩ | ⟨h, e1, e2⟩
      · rw [e1, e2, e]; simp [AC.up]
      · rw [e1, e2]
        constructor
        · rintro ⟨h1, _⟩
          obtain ⟨b, e, _⟩ := sl_up.1 h1
          exact absurd ⟨_, _, _, e⟩ h
        · rintro ⟨h1, _⟩
          exact absurd ⟨_, _, _, h1⟩ h

section
variable (α : Type) [Cel α]
def row2 (a : AA) (n : Nat) (M : RId → Option Rg) : List (List α) := (List.range n).map fun k => row α (slc (atG a (M a.r) k)).1 (slc (atG a (M a.r) k)).2.1 (M (slc (atG a (M a.r) k)).1.r)
/-- the rows X lie at a -/
def Rows2 (a : AA) (n : Nat) (M : RId → Option Rg) (X : List (List α)) : Prop := n ≤ 4294967296 ∧ X.length = n ∧ (0 < n → ∃ own ty cnt cap len get, ∃ (b : Nat → AA) (c : Nat → Nat), M a.r = some (.arr own ty 1 cnt cap len get) ∧ a.f = 0 ∧ a.i < cnt ∧ a.k + n ≤ len a.i ∧
    ∀ k, k < n → get a.i (a.k + k) = [.sl (b k) (X.getD k default).length (c k)] ∧ (X.getD k default).length ≤ c k ∧ RowOk α (b k) (X.getD k default).length (M (b k).r) ∧ row α (b k) (X.getD k default).length (M (b k).r) = X.getD k default)
def Row2Ok (a : AA) (n : Nat) (M : RId → Option Rg) : Prop := Rows2 α a n M (row2 α a n M)
end
section
variable {α : Type} [Cel α]
theorem row2_length (a : AA) (n : Nat) (M : RId → Option Rg) : (row2 α a n M).length = n := by simp [row2]
theorem Rows2.eq {a : AA} {n : Nat} {M : RId → Option Rg} {X : List (List α)} (h : Rows2 α a n M X) : row2 α a n M = X := by
  obtain ⟨h1, h2, h3⟩ := h
  refine List.ext_getElem (by rw [row2_length, h2]) fun k hk hk' => ?_
  obtain ⟨own, ty, cnt, cap, len, get, b, c, hM, _, _, _, hg⟩ := h3 (by omega)
  obtain ⟨e1, _, _, e4⟩ := hg k (by omega)
  have e : atG a (M a.r) k = [.sl (b k) (X.getD k default).length (c k)] := by rw [hM]; exact e1
  have e5 : (row2 α a n M)[k] = row α (slc (atG a (M a.r) k)).1 (slc (atG a (M a.r) k)).2.1 (M (slc (atG a (M a.r) k)).1.r) := by simp [row2]
  rw [e5, e]
  show row α (b k) (X.getD k default).length (M (b k).r) = _
  rw [e4, getD_of_lt hk']
theorem Rows2.ok {a : AA} {n : Nat} {M : RId → Option Rg} {X : List (List α)} (h : Rows2 α a n M X) : Row2Ok α a n M := by
  unfold Row2Ok; rw [h.eq]; exact h
theorem Row2Ok.x {a : AA} {n : Nat} {M : RId → Option Rg} (h : Row2Ok α a n M) : n ≤ 4294967296 ∧ ∃ X, row2 α a n M = X ∧ X.length = n ∧ (0 < n → ∃ own ty cnt cap len get, ∃ (b : Nat → AA) (c : Nat → Nat), M a.r = some (.arr own ty 1 cnt cap len get) ∧ a.f = 0 ∧ a.i < cnt ∧ a.k + n ≤ len a.i ∧
    ∀ k, k < n → get a.i (a.k + k) = [.sl (b k) (X.getD k default).length (c k)] ∧ (X.getD k default).length ≤ c k ∧ RowOk α (b k) (X.getD k default).length (M (b k).r) ∧ row α (b k) (X.getD k default).length (M (b k).r) = X.getD k default) :=
  ⟨h.1, _, rfl, h.2.1, h.2.2⟩
theorem Rows2_up {T : List Sl} {L : List Rg} {a : AA} {n : Nat} {M : RId → Option Rg} {X : List (List α)} (h : Rows2 α a n M X) : Rows2 α a.up n (St.look ⟨T, M, [], L⟩) X := by
  obtain ⟨h1, h2, h3⟩ := h
  refine ⟨h1, h2, fun h0 => ?_⟩
  obtain ⟨own, ty, cnt, cap, len, get, b, c, hM, h4, h5, h6, hg⟩ := h3 h0
  refine ⟨own, ty, cnt, cap, len, fun i k => (get i k).map AC.up, fun k => (b k).up, c, ?_, h4, h5, h6, fun k hk => ?_⟩
  · show (M a.r).map Rg.up = _
    rw [hM]; rfl
  · obtain ⟨e1, e2, e3, e4⟩ := hg k hk
    refine ⟨?_, e2, ?_, ?_⟩
    · show (get a.i (a.k + k)).map AC.up = _
      rw [e1]; rfl
    · show RowOk α (b k).up _ ((M (b k).r).map Rg.up)
      rw [RowOk_up]; exact e3
    · show row α (b k).up _ ((M (b k).r).map Rg.up) = _
      rw [row_up]; exact e4
/-- families, as they stand in a state -/
def nestAt (o : Option Rg) (q : RId) (F : List (Nat × List α)) : Prop := ∃ own t c, o = some (.rows own t 1 [(c, nestC q F)])
def famAt (o : Option Rg) (F : List (Nat × List α)) : Prop := ∃ own t, o = some (.rows own t (Cel.sz α) (mems F))
omit [Cel α] in
theorem nestAt_rows {own t c} {q : RId} {F : List (Nat × List α)} : nestAt (some (.rows own t 1 [(c, nestC q F)])) q F = True := eq_true ⟨own, t, c, rfl⟩
theorem famAt_rows {own t s} {F : List (Nat × List α)} (h : s = Cel.sz α) : famAt (some (.rows own t s (mems F))) F = True := eq_true ⟨own, t, by rw [h]⟩
def famOk (F : List (Nat × List α)) : Prop := F.length ≤ 4294967296 ∧ ∀ p ∈ F, p.2.length ≤ 4294967296 ∧ p.2.length ≤ p.1
theorem Rows2_fam {M : RId → Option Rg} {i q : RId} {F : List (Nat × List α)} (h1 : nestAt (M i) q F) (h2 : famAt (M q) F) (hF : famOk F) : Rows2 α ⟨i, 0, 0, 0⟩ F.length M (F.map (·.2)) := by
  obtain ⟨own, t, c, h1⟩ := h1
  obtain ⟨own', t', h2⟩ := h2
  refine ⟨hF.1, by simp, fun h0 => ?_⟩
  have hX : ∀ k, k < F.length → (F.map (·.2)).getD k default = (F.getD k default).2 := fun k hk => getD_map (f := fun p : Nat × List α => p.2) hk
  refine ⟨_, _, _, _, _, _, fun k => ⟨q, k, 0, 0⟩, fun k => (F.getD k default).1, h1, rfl, Nat.zero_lt_one, ?_, fun k hk => ?_⟩
  · show 0 + F.length ≤ (nestC q F).length
    rw [nest_len]; omega
  · rw [hX k hk]
    obtain ⟨f1, f2⟩ := hF.2 _ (getD_mem hk)
    have hm : (mems F).getD k (0, []) = ((F.getD k default).1, (F.getD k default).2.map enc) := by
      rw [mems_getD, getD_lt F k (0, []) default hk]
    refine ⟨?_, f2, ?_, ?_⟩
    · show (nestC q F).getD (0 + k) [] = _
      rw [Nat.zero_add, nest_get q hk]
    · show RowOk α _ _ (M q)
      rw [h2, RowOk_rows, hm]
      refine ⟨f1, .inr ⟨rfl, rfl, by rw [mems_len]; exact hk, by simp, ?_⟩⟩
      simp only [Nat.zero_add]
      rw [win_whole (by simp), allEnc_enc]; trivial
    · show row α _ _ (M q) = _
      rw [h2, row_rows, hm]
      simp only [Nat.zero_add]
      rw [win_whole (by simp), map_dec_enc]
theorem row2_fam (i q : Nat) (F : List (Nat × List α)) (hF : famOk F) {T : List Sl} {M : RId → Option Rg} {ov : List (RId × Rg)} {L : List Rg} {n : Nat} (h1 : nestAt L[i]? (.loc q) F) (h2 : famAt L[q]? F) (hn : n = F.length) :
    row2 α ⟨.loc i, 0, 0, 0⟩ n (St.look ⟨T, M, ov, L⟩) = F.map (·.2) := by subst hn; exact (Rows2_fam (M := St.look ⟨T, M, ov, L⟩) (i := .loc i) h1 h2 hF).eq
theorem Row2Ok_fam (i q : Nat) (F : List (Nat × List α)) (hF : famOk F) {T : List Sl} {M : RId → Option Rg} {ov : List (RId × Rg)} {L : List Rg} {n : Nat} (h1 : nestAt L[i]? (.loc q) F) (h2 : famAt L[q]? F) (hn : n = F.length) :
    Row2Ok α ⟨.loc i, 0, 0, 0⟩ n (St.look ⟨T, M, ov, L⟩) = True := by subst hn; exact eq_true (Rows2_fam (M := St.look ⟨T, M, ov, L⟩) (i := .loc i) h1 h2 hF).ok
theorem row2_upE {T : List Sl} {L : List Rg} {a : AA} {n : Nat} {M : RId → Option Rg} (h : Row2Ok α a n M) : row2 α a.up n (St.look ⟨T, M, [], L⟩) = row2 α a n M := (Rows2_up h).eq
theorem Row2Ok_upE {T : List Sl} {L : List Rg} {a : AA} {n : Nat} {M : RId → Option Rg} (h : Row2Ok α a n M) : Row2Ok α a.up n (St.look ⟨T, M, [], L⟩) = True := eq_true (Rows2_up h).ok
theorem Row2Ok.w {a : AA} {n : Nat} {M : RId → Option Rg} (h : Row2Ok α a n M) : Row2W a n (M a.r) := by
  obtain ⟨h1, h2, h3⟩ := h
  rcases Nat.eq_zero_or_pos n with h0 | h0
  · exact .inl h0
  · obtain ⟨own, ty, cnt, cap, len, get, b, c, hM, h4, h5, h6, hg⟩ := h3 h0
    rw [hM, Row2W_def]
    refine .inr ⟨rfl, h4, h5, h6, fun k hk => ?_⟩
    obtain ⟨e1, e2, e3, e4⟩ := hg k hk
    rw [e1]
    exact ⟨rfl, by have := e3.1; show _ ≤ _; simp only [slc]; omega⟩
end

/-! ### a row of one's own, one of many -/
/-- members as a callee sees them -/
def memU (cnt : Nat) (cap len : Nat → Nat) (get : Nat → Nat → List AC) : List (Nat × List (List AC)) := (List.range cnt).map fun i => (cap i, (win (get i) (len i)).map (List.map AC.up))
theorem memU_len {cnt : Nat} {cap len : Nat → Nat} {get : Nat → Nat → List AC} : (memU cnt cap len get).length = cnt := by simp [memU]
theorem memU_rows {LL : List (Nat × List (List AC))} : memU LL.length (fun i => (LL.getD i (0, [])).1) (fun i => (LL.getD i (0, [])).2.length) (fun i k => (LL.getD i (0, [])).2.getD k []) = mapLL (List.map AC.up) LL := by
  rw [mapLL_eq]
  refine List.ext_getElem (by simp [memU]) fun i hi hi' => ?_
  have hi2 : i < LL.length := by simpa using hi'
  simp only [memU, List.getElem_map, List.getElem_range, win_whole rfl]
  rw [List.getD_eq_getElem?_getD, List.getElem?_eq_getElem hi2]; rfl
theorem up_ren (τ : List Nat) (cs : List AC) : renl τ (cs.map AC.up) = cs.map AC.up := by
  rw [renl_map, List.map_map]
  exact List.map_congr_left fun c _ => by cases c <;> simp [AC.up, AC.map, AA.map, AA.up, RId.ren]
theorem up_cll (n : Nat) (cs : List AC) : cll n (cs.map AC.up) := cll_all fun c hc => by
  obtain ⟨d, _, rfl⟩ := List.mem_map.1 hc
  cases d with
  | ptr a => exact trivial
  | sl a l c => exact .inr trivial
  | clo f caps => exact fun a ha => by obtain ⟨b, _, rfl⟩ := List.mem_map.1 ha; exact trivial
  | _ => exact trivial
section
variable {α : Type} [Cel α]
theorem memU_ren {τ : List Nat} {cnt : Nat} {cap len : Nat → Nat} {get : Nat → Nat → List AC} {i c : Nat} {X : List α} : mapLL (renl τ) ((memU cnt cap len get).set i (c, X.map enc)) = (memU cnt cap len get).set i (c, X.map enc) := by
  rw [mapLL_eq, List.map_set]
  congr 1
  · rw [memU, List.map_map]
    refine List.map_congr_left fun i _ => ?_
    simp only [Function.comp, List.map_map]
    congr 1
    exact List.map_congr_left fun cs _ => up_ren τ cs
  · simp only [map_enc_ren]
theorem memU_cl {n : Nat} {cnt : Nat} {cap len : Nat → Nat} {get : Nat → Nat → List AC} {i c : Nat} {X : List α} : rowsCl n ((memU cnt cap len get).set i (c, X.map enc)) = True := by
  refine eq_true (rowsCl_of.2 fun j hj => ?_)
  have hj : j < cnt := by simpa [memU] using hj
  rw [List.getD_eq_getElem?_getD, List.getElem?_set]
  split
  · split
    · rw [Option.getD_some, allCl_enc]; trivial
    · exact fun c hc => by simp at hc
  · rw [memU, List.getElem?_map, List.getElem?_range hj]
    intro cs hcs
    obtain ⟨ds, _, rfl⟩ := List.mem_map.1 hcs
    exact up_cll n ds
theorem memU_le {ty s cnt : Nat} {cap len : Nat → Nat} {get : Nat → Nat → List AC} {i0 : Nat} {X : List α} (hl : len i0 = X.length) (hg : ∀ j, j < X.length → get i0 j = enc (X.getD j default)) :
    RgLe (.rows true ty s ((memU cnt cap len get).set i0 (cap i0, X.map enc))) (.arr true ty s cnt cap len fun i k => (get i k).map AC.up) = True := by
  refine eq_true ⟨id, rfl, rfl, (by simp [memU]), fun i hi => ?_⟩
  have hi : i < cnt := by simpa [memU] using hi
  have e : ((memU cnt cap len get).set i0 (cap i0, X.map enc)).getD i (0, []) = if i0 = i then (cap i0, X.map enc) else (cap i, (win (get i) (len i)).map (List.map AC.up)) := by
    rw [List.getD_eq_getElem?_getD, List.getElem?_set, memU_len]
    split
    · rename_i h; subst h; rw [if_pos hi]; rfl
    · rw [memU, List.getElem?_map, List.getElem?_range hi]; rfl
  simp only [e]
  by_cases h : i0 = i
  · subst h
    simp only [if_true]
    refine ⟨trivial, (by simp [hl]), fun k hk => ?_⟩
    have hk : k < X.length := by simpa using hk
    rw [getD_enc _ _ hk, hg k hk, enc_up]
  · simp only [if_neg h]
    refine ⟨trivial, (by simp [win_length]), fun k hk => ?_⟩
    have hk : k < len i := by simpa [win_length] using hk
    rw [getD_map0 (List.map AC.up) rfl, win_get _ hk]
theorem memU_self {cnt : Nat} {cap len : Nat → Nat} {get : Nat → Nat → List AC} {i c : Nat} {X : List α} (h : i < cnt) : ((memU cnt cap len get).set i (c, X.map enc)).getD i (0, []) = (c, X.map enc) := by
  rw [List.getD_eq_getElem?_getD, List.getElem?_set_self (by rw [memU_len]; exact h), Option.getD_some]
end
theorem and_OK {P : Program} {f : FuncId} {args : List AV} {M : RId → Option Rg} {p : Prop} {Z : Spec} (h : p → Z.OK P f args M) : (Spec.and p Z).OK P f args M := by
  cases Z with
  | pure pre v => exact fun hp => h hp.1 hp.2
  | eff pre ι cond val new upd => exact fun hp => h hp.1 hp.2
  | bad => trivial
section
variable (α : Type) [Cel α]
def specF (a : AA) (n : Nat) (o : Option Rg) (K : List α → (List α → Rg) → Spec) : Spec :=
  specG o fun own t s cnt cap len get => (K (row α a n o) fun Y => .rows own t s ((memU cnt cap len get).set a.i (cap a.i, Y.map enc))).and
    (own = true ∧ s = Cel.sz α ∧ a.i < cnt ∧ len a.i = n ∧ n ≤ 4294967296 ∧ allEnc α (win (fun k => get a.i (a.k + k)) n) ∧ a.k = 0 ∧ a.f = 0)
end
section
variable {α : Type} [Cel α]
theorem specF_cases {P : Program} {f : FuncId} {args : List AV} {M : RId → Option Rg} {a : AA} {n : Nat} {o : Option Rg} {K : List α → (List α → Rg) → Spec}
    (h : ∀ (t : TypeId) (cnt : Nat) (cap len : Nat → Nat) (get : Nat → Nat → List AC) (X : List α), o = some (.arr true t (Cel.sz α) cnt cap len get) → row α a n o = X → X.length = n → n ≤ 4294967296 → a.i < cnt → len a.i = n → (∀ j, j < n → get a.i j = enc (X.getD j default)) → a.k = 0 → a.f = 0 →
      (K X fun Y => .rows true t (Cel.sz α) ((memU cnt cap len get).set a.i (cap a.i, Y.map enc))).OK P f args M) : (specF α a n o K).OK P f args M := by
  unfold specF specG
  split
  · rename_i own t s cnt cap len get
    have hh := h t cnt cap len get (row α a n (some (.arr own t s cnt cap len get)))
    refine and_OK ?_
    rintro ⟨rfl, rfl, h1, h2, h3, h4, h5, h6⟩
    refine hh rfl rfl (row_length _ _ _) h3 h1 h2 (fun j hj => ?_) h5 h6
    have hr : RowOk α a n (some (.arr true t (Cel.sz α) cnt cap len get)) := ⟨h3, .inr ⟨rfl, h6, h1, by omega, h4⟩⟩
    obtain ⟨_, _, _, _, _, _, e, _, _, _, hg⟩ := hr.at (by omega)
    cases e
    have := hg j hj
    rwa [h5, Nat.zero_add] at this
  · trivial
theorem specF_rows {a : AA} {n : Nat} {own t s} {LL : List (Nat × List (List AC))} {K : List α → (List α → Rg) → Spec} : specF α a n (some (.rows own t s LL)) K =
    (K (row α a n (some (.rows own t s LL))) fun Y => .rows own t s ((mapLL (List.map AC.up) LL).set a.i ((LL.getD a.i (0, [])).1, Y.map enc))).and
    (own = true ∧ s = Cel.sz α ∧ a.i < LL.length ∧ (LL.getD a.i (0, [])).2.length = n ∧ n ≤ 4294967296 ∧ allEnc α (win (fun k => (LL.getD a.i (0, [])).2.getD (a.k + k) []) n) ∧ a.k = 0 ∧ a.f = 0) := by
  rw [← memU_rows]; rfl
theorem specF_none {a : AA} {n : Nat} {K : List α → (List α → Rg) → Spec} : specF α a n none K = .bad := Eq.trans rfl rfl
end

/-! ### rows of one's own, all of them -/
section
variable (α : Type) [Cel α]
def famF (o : Option Rg) : List (Nat × List α) := match o with
  | some (.arr _ _ _ cnt cap len get) => (List.range cnt).map fun i => (cap i, (win (get i) (len i)).map dec)
  | _ => []
def famT (o : Option Rg) : TypeId := match o with
  | some (.arr _ t _ _ _ _ _) => t
  | _ => 0
def famR (a : AA) (o : Option Rg) : RId := (slc (atG a o 0)).1.r
/-- slices at a whose elements all lie in one region q, each in its place -/
def nestK (a : AA) (n : Nat) (M : RId → Option Rg) (K : RId → TypeId → List (Nat × List α) → Spec) : Spec :=
  (K (famR a (M a.r)) (famT (M (famR a (M a.r)))) (famF α (M (famR a (M a.r))))).and
    (nestAt (M a.r) (famR a (M a.r)) (famF α (M (famR a (M a.r)))) ∧ M (famR a (M a.r)) = some (.rows true (famT (M (famR a (M a.r)))) (Cel.sz α) (mems (famF α (M (famR a (M a.r)))))) ∧ (famF α (M (famR a (M a.r)))).length = n ∧ famOk (famF α (M (famR a (M a.r)))) ∧ a.i = 0 ∧ a.k = 0 ∧ a.f = 0)
end
section
variable {α : Type} [Cel α]
theorem famF_rows {o t s} {F : List (Nat × List α)} : famF α (some (.rows o t s (mems F))) = F := by
  show (List.range (mems F).length).map (fun i => (((mems F).getD i (0, [])).1, (win (fun k => ((mems F).getD i (0, [])).2.getD k []) ((mems F).getD i (0, [])).2.length).map dec)) = F
  refine List.ext_getElem (by simp [mems_len]) fun i hi hi' => ?_
  rw [List.getElem_map, List.getElem_range, win_whole rfl, mems_getD]
  simp only [map_dec_enc]
  rw [List.getD_eq_getElem?_getD, List.getElem?_eq_getElem hi']; rfl
theorem famT_rows {o t s LL} : famT (some (.rows o t s LL)) = t := Eq.trans rfl rfl
theorem famR_rows {r : RId} {o t c} {q : RId} {F : List (Nat × List α)} (h : 0 < F.length) : famR ⟨r, 0, 0, 0⟩ (some (.rows o t 1 [(c, nestC q F)])) = q := by
  show (slc ((nestC q F).getD (0 + 0) [])).1.r = q
  rw [Nat.zero_add, nest_get q h]; rfl
theorem famR_at {a : AA} {o t c} {q : RId} {F : List (Nat × List α)} (h : 0 < F.length) (hi : a.i = 0) (hk : a.k = 0) : famR a (some (.rows o t 1 [(c, nestC q F)])) = q := by
  obtain ⟨r, i, k, f⟩ := a
  dsimp only at hi hk
  subst hi hk
  show (slc ((nestC q F).getD (0 + 0) [])).1.r = q
  rw [Nat.zero_add, nest_get q h]; rfl
theorem nestK_cases {P : Program} {f : FuncId} {args : List AV} {M : RId → Option Rg} {a : AA} {n : Nat} {K : RId → TypeId → List (Nat × List α) → Spec}
    (h : ∀ q t F own t0 c, M a.r = some (.rows own t0 1 [(c, nestC q F)]) → M q = some (.rows true t (Cel.sz α) (mems F)) → F.length = n → famOk F → a.i = 0 → a.k = 0 → a.f = 0 → (K q t F).OK P f args M) : (nestK α a n M K).OK P f args M := by
  refine and_OK ?_
  rintro ⟨⟨own, t0, c, h1⟩, h2, h3, h4, h5, h6, h7⟩
  exact h _ _ _ own t0 c h1 h2 h3 h4 h5 h6 h7
theorem nest_ne {M : RId → Option Rg} {r q : RId} {own t0 c own' t s} {F : List (Nat × List α)} (h0 : 0 < F.length) (h1 : M r = some (.rows own t0 1 [(c, nestC q F)])) (h2 : M q = some (.rows own' t s (mems F))) : (q = r) = False := by
  refine eq_false fun e => ?_
  subst e
  rw [h1] at h2
  have h2 := Option.some.inj h2
  unfold Rg.rows at h2
  rw [Rg.arr.injEq] at h2
  obtain ⟨_, _, _, h3, _, h5, h6⟩ := h2
  have h5 := congrFun h5 0
  have h6 := congrFun (congrFun h6 0) 0
  simp only [List.getD_cons_zero, nest_len, mems_getD, List.length_map] at h5 h6
  rw [nest_get q h0, getD_enc _ _ (by omega)] at h6
  have h7 := Cel.noClo _ (.sl ⟨q, 0, 0, 0⟩ (F.getD 0 default).2.length (F.getD 0 default).1) (by rw [← h6]; simp) fun x => .out x
  simp [AC.map, AA.map] at h7
  have key : ∀ x : RId, RId.out x ≠ x := fun x => by
    induction x with
    | out y ih => intro e; injection e with e; exact ih e
    | _ => intro e; cases e
  exact key _ h7
end

/-! ### arguments -/
section
variable {α : Type} [Cel α] [CelK α]
theorem outer_arg {q : RId} {ty : TypeId} {len : Nat} {G : List (Nat × List (List AC))} (hl : G.length = len) (hG : ∀ p ∈ G, p.2.length ≤ p.1 ∧ p.1 ≤ 9223372036854775807 ∧ True) {r : RId} :
    Row2W ⟨r, 0, 0, 0⟩ len (some (.rows false ty 1 [(len, nestC q G)])) := by
  subst hl
  refine .inr ⟨rfl, rfl, Nat.zero_lt_one, (by show 0 + G.length ≤ (nestC q G).length; rw [nest_len]; omega), fun k hk => ?_⟩
  have e : (nestC q G).getD (0 + k) [] = [.sl ⟨q, k, 0, 0⟩ (G.getD k default).2.length (G.getD k default).1] := by rw [Nat.zero_add]; exact nest_get q hk
  show (nestC q G).getD (0 + k) [] = [.sl (slc ((nestC q G).getD (0 + k) [])).1 (slc ((nestC q G).getD (0 + k) [])).2.1 (slc ((nestC q G).getD (0 + k) [])).2.2] ∧ (slc ((nestC q G).getD (0 + k) [])).2.1 ≤ _
  rw [e]
  refine ⟨rfl, ?_⟩
  obtain ⟨h1, h2, _⟩ := hG _ (getD_mem hk)
  show (G.getD k default).2.length ≤ _
  omega
theorem lens_arg {q : RId} {ty : TypeId} {len : Nat} {G : List (Nat × List (List AC))} (hl : G.length = len) {r : RId} :
    lens2 ⟨r, 0, 0, 0⟩ len (some (.rows false ty 1 [(len, nestC q G)])) = G.map fun p => p.2.length := by
  subst hl
  refine List.ext_getElem (by simp [lens2]) fun k hk hk' => ?_
  have hk2 : k < G.length := by simpa using hk'
  have e5 : (lens2 ⟨r, 0, 0, 0⟩ G.length (some (.rows false ty 1 [(G.length, nestC q G)])))[k] = (slc ((nestC q G).getD (0 + k) [])).2.1 := by
    simp only [lens2, List.getElem_map, List.getElem_range]; rfl
  rw [e5, List.getElem_map]
  have e : (nestC q G).getD (0 + k) [] = [.sl ⟨q, k, 0, 0⟩ (G.getD k default).2.length (G.getD k default).1] := by rw [Nat.zero_add]; exact nest_get q hk2
  rw [e, getD_of_lt hk2]; rfl
theorem Row2Ok_arg {regs : List Rg} {m : Nat} {ty ty2 : TypeId} {len s : Nat} {G : List (Nat × List (List AC))} (hs : s = Cel.sz α) (hl : G.length = len) (hG : ∀ p ∈ G, p.2.length ≤ p.1 ∧ p.1 ≤ 9223372036854775807 ∧ ∀ acs ∈ p.2, HasK (CelK.ks α) acs)
    (h0 : regs[m]? = some (.rows false ty 1 [(len, nestC (.loc (m + 1)) G)])) (h1 : regs[m + 1]? = some (.rows false ty2 s (G.map fun p => (p.2.length, p.2)))) (hn : len ≤ 4294967296) (hb : ∀ x ∈ G.map (fun p => p.2.length), x ≤ 4294967296) :
    Row2Ok α ⟨.loc m, 0, 0, 0⟩ len (locM regs) := by
  subst hl hs
  refine Rows2.ok (X := G.map fun p => p.2.map dec) ⟨hn, by simp, fun _ => ?_⟩
  refine ⟨_, _, _, _, _, _, fun k => ⟨.loc (m + 1), k, 0, 0⟩, fun k => (G.getD k default).1, h0, rfl, Nat.zero_lt_one, (by show 0 + G.length ≤ (nestC _ G).length; rw [nest_len]; omega), fun k hk => ?_⟩
  have hX : (G.map fun p => p.2.map (dec : List AC → α)).getD k default = (G.getD k default).2.map dec := getD_map (f := fun p : Nat × List (List AC) => p.2.map (dec : List AC → α)) hk
  rw [hX, List.length_map]
  obtain ⟨g1, g2, g3⟩ := hG _ (getD_mem hk)
  have hmk : (G.map fun p : Nat × List (List AC) => (p.2.length, p.2)).getD k (0, []) = ((G.getD k default).2.length, (G.getD k default).2) := by
    rw [List.getD_eq_getElem?_getD, List.getElem?_map, List.getElem?_eq_getElem hk, getD_of_lt hk]; rfl
  have hbk : (G.getD k default).2.length ≤ 4294967296 := hb _ (List.mem_map.2 ⟨_, getD_mem hk, rfl⟩)
  refine ⟨?_, g1, ?_, ?_⟩
  · show (nestC _ G).getD (0 + k) [] = _
    rw [Nat.zero_add, nest_get _ hk]
  · show RowOk α _ _ regs[m + 1]?
    rw [h1, RowOk_rows, hmk]
    refine ⟨hbk, .inr ⟨rfl, rfl, by simpa using hk, by simp, ?_⟩⟩
    simp only [Nat.zero_add]
    rw [win_whole rfl]
    exact fun cs hcs => CelK.back cs (g3 cs hcs)
  · show row α _ _ regs[m + 1]? = _
    rw [h1, row_rows, hmk]
    simp only [Nat.zero_add]
    rw [win_whole rfl]
end
end Go.Eng

namespace Go.Eng
set_option maxRecDepth 4000
theorem WN : ((((type_of% @nest_up) ∧ ((type_of% @nest_dn) ∧ (type_of% @nest_len))) ∧ ((type_of% @nest_nil) ∧ ((type_of% @mems_len) ∧ (type_of% @mems_nil)))) ∧ (((type_of% @mems_getD) ∧ ((type_of% @mems_set) ∧ (type_of% @mems_up))) ∧ ((type_of% @mems_dn) ∧ ((type_of% @nestAt_rows) ∧ (type_of% @famAt_rows))))) ∧ ((((type_of% @Row2W_up) ∧ ((type_of% @lens2_up) ∧ (type_of% @specF_rows))) ∧ ((type_of% @specF_none) ∧ ((type_of% @famF_rows) ∧ (type_of% @famT_rows)))) ∧ (((type_of% @bi_len_i) ∧ ((type_of% @bi_len_b) ∧ (type_of% @bi_len_p))) ∧ ((type_of% @bi_len_c) ∧ ((type_of% @bi_len_r) ∧ (type_of% @bi_appendZ))))) :=
  ⟨⟨⟨⟨@nest_up, ⟨@nest_dn, @nest_len⟩⟩, ⟨@nest_nil, ⟨@mems_len, @mems_nil⟩⟩⟩, ⟨⟨@mems_getD, ⟨@mems_set, @mems_up⟩⟩, ⟨@mems_dn, ⟨@nestAt_rows, @famAt_rows⟩⟩⟩⟩, ⟨⟨⟨@Row2W_up, ⟨@lens2_up, @specF_rows⟩⟩, ⟨@specF_none, ⟨@famF_rows, @famT_rows⟩⟩⟩, ⟨⟨@bi_len_i, ⟨@bi_len_b, @bi_len_p⟩⟩, ⟨@bi_len_c, ⟨@bi_len_r, @bi_appendZ⟩⟩⟩⟩⟩
theorem WNL : (((((type_of% @nest_up) ∧ ((type_of% @nest_dn) ∧ (type_of% @nest_ren))) ∧ ((type_of% @nest_len) ∧ ((type_of% @nest_cl) ∧ (type_of% @mems_len)))) ∧ (((type_of% @mems_nil) ∧ ((type_of% @mems_getD) ∧ (type_of% @mems_set))) ∧ ((type_of% @mems_up) ∧ ((type_of% @mems_dn) ∧ (type_of% @mems_ren))))) ∧ ((((type_of% @mems_cl) ∧ ((type_of% @mapLL_rep) ∧ (type_of% @rowsCl_rep))) ∧ ((type_of% @rowsLe_self) ∧ ((type_of% @swp_mk) ∧ (type_of% @swT_nil)))) ∧ (((type_of% @swT_un) ∧ ((type_of% @swT_v) ∧ (type_of% @swR_nil))) ∧ (((type_of% @swR_cons) ∧ (type_of% @swO_nil)) ∧ ((type_of% @swO_cons) ∧ (type_of% @rows_sw)))))) ∧ (((((type_of% @box_sw) ∧ ((type_of% @ac_int_sw) ∧ (type_of% @ac_bool_sw))) ∧ ((type_of% @ac_str_sw) ∧ ((type_of% @ac_ptr_sw) ∧ (type_of% @ac_sl_sw)))) ∧ (((type_of% @ac_raw_sw) ∧ ((type_of% @swA_up) ∧ (type_of% @swA_nil))) ∧ (((type_of% @swA_out) ∧ (type_of% @swA_hit)) ∧ ((type_of% @av_c_sw) ∧ (type_of% @av_agg_sw))))) ∧ ((((type_of% @av_tup_sw) ∧ ((type_of% @swl_nil) ∧ (type_of% @swl_cons))) ∧ ((type_of% @swt_nil) ∧ ((type_of% @swt_cons) ∧ (type_of% @mems_sw)))) ∧ (((type_of% @map_enc_sw) ∧ ((type_of% @enc_sw) ∧ (type_of% @nest_sw_out))) ∧ (((type_of% @setG_nil') ∧ (type_of% @setG_zero)) ∧ ((type_of% @setG_succ) ∧ (type_of% @alloc_mk)))))) :=
  ⟨⟨⟨⟨⟨@nest_up, ⟨@nest_dn, @nest_ren⟩⟩, ⟨@nest_len, ⟨@nest_cl, @mems_len⟩⟩⟩, ⟨⟨@mems_nil, ⟨@mems_getD, @mems_set⟩⟩, ⟨@mems_up, ⟨@mems_dn, @mems_ren⟩⟩⟩⟩, ⟨⟨⟨@mems_cl, ⟨@mapLL_rep, @rowsCl_rep⟩⟩, ⟨@rowsLe_self, ⟨@swp_mk, @swT_nil⟩⟩⟩, ⟨⟨@swT_un, ⟨@swT_v, @swR_nil⟩⟩, ⟨⟨@swR_cons, @swO_nil⟩, ⟨@swO_cons, @rows_sw⟩⟩⟩⟩⟩, ⟨⟨⟨⟨@box_sw, ⟨@ac_int_sw, @ac_bool_sw⟩⟩, ⟨@ac_str_sw, ⟨@ac_ptr_sw, @ac_sl_sw⟩⟩⟩, ⟨⟨@ac_raw_sw, ⟨@swA_up, @swA_nil⟩⟩, ⟨⟨@swA_out, @swA_hit⟩, ⟨@av_c_sw, @av_agg_sw⟩⟩⟩⟩, ⟨⟨⟨@av_tup_sw, ⟨@swl_nil, @swl_cons⟩⟩, ⟨@swt_nil, ⟨@swt_cons, @mems_sw⟩⟩⟩, ⟨⟨@map_enc_sw, ⟨@enc_sw, @nest_sw_out⟩⟩, ⟨⟨@setG_nil', @setG_zero⟩, ⟨@setG_succ, @alloc_mk⟩⟩⟩⟩⟩⟩
end Go.Eng

namespace Go.Eng
/-- a row of one's own, by its name -/
def ownK (o : Option Rg) (i : Nat) : Prop :=
  match o with
  | some (.arr own _ sz cnt cp _ _) => own = true ∧ i < cnt ∧ 0 < cp i ∧ 0 < sz
  | _ => False
theorem ownK_rows {own : Bool} {ty : TypeId} {s : Nat} {LL : List (Nat × List (List AC))} {i : Nat} : ownK (some (.rows own ty s LL)) i = (own = true ∧ i < LL.length ∧ 0 < (LL.getD i (0, [])).1 ∧ 0 < s) := rfl
theorem ownK_look {M : RId → Option Rg} {a : AA} {W : Nat → Prop} {n0 : Nat} {ρ : Env} {w : World} (h : ownK (M a.r) a.i) (hm : MemOk W n0 ρ M w) :
    ∃ g, M a.r = some g ∧ g.own = true ∧ g.has a.i ∧ ∃ cur ty, w.heap[ρ.blk a.r a.i]? = some (.cells cur ty (0, 0)) ∧ 0 < cur.size := by
  unfold ownK at h
  split at h
  · rename_i own ty sz cnt cp len get hl
    obtain ⟨rfl, h1, h2, h3⟩ := h
    obtain ⟨_, hr⟩ := hm.regs _ _ hl
    obtain ⟨_, cur, hc, hcs⟩ := (hr _ h1).2.2 rfl h2
    exact ⟨_, hl, rfl, ⟨h1, h2⟩, cur, ty, hc, by rw [hcs]; exact Nat.mul_pos h2 h3⟩
  · exact h.elim
theorem ext_overlaps {P : Program} {f : FuncId} {fn : Func} {tS tR e : TypeId} {size by_ : Nat} (hf : P.funcs[f]? = some fn) (hname : (fn.name == "runtime.NumGoroutine") = false) (hb : fn.body.isNone = true) (hn : Extern.findNext fn = none)
    (he : Extern.find fn = some (Extern.SlicesOverlaps.overlaps #[tS, tS] #[tR])) (hel : elP P tS = some (e, size, by_)) :
    SpecOK P ⟨f, fun args M => match args with
      | [.c (.sl a _ ca), .c (.sl b _ cb)] => .pure (a.r ≠ b.r ∧ 0 < ca ∧ 0 < cb ∧ ownK (M a.r) a.i ∧ ownK (M b.r) b.i) (B false)
      | _ => .bad⟩ := by
  obtain ⟨ht, ii, hii, hisz, _⟩ := run_elP hel
  have hz : ∀ w, (Go.sizeOf e).run P w = .ok size w := fun w => by simp [sizeOf, typeInfo, hii, hisz]
  refine .inr fun args M => ?_
  dsimp only
  split
  · rename_i pre val hs
    split at hs
    · rename_i a n ca b m cb
      obtain ⟨rfl, rfl⟩ : (a.r ≠ b.r ∧ 0 < ca ∧ 0 < cb ∧ ownK (M a.r) a.i ∧ ownK (M b.r) b.i) = pre ∧ B false = val := by injection hs with h1 h2; exact ⟨h1, h2⟩
      rintro ⟨hne, hca, hcb, ha, hb'⟩ W n0 ρ0 w vs hin
      obtain ⟨hm, hA⟩ := hin ρ0 (Agree.refl _ _)
      obtain ⟨ga, la, oa, hha, cura, tya, hea, _⟩ := ownK_look ha hm
      obtain ⟨gb, lb, ob, hhb, curb, tyb, heb, hkb⟩ := ownK_look hb' hm
      match vs, hA with
      | [u, v], hA =>
        obtain ⟨hu, hv, _⟩ := hA
        obtain ⟨o, rfl, _, ho⟩ := hu
        obtain ⟨o', rfl, _, ho'⟩ := hv
        obtain rfl := ho hca
        obtain rfl := ho' hcb
        refine ⟨.bool false, ?_, fun n ρ => ?_⟩
        · rw [run_callFunc_extern hf hname hb hn he]
          have hblk : ρ0.blk a.r a.i ≠ ρ0.blk b.r b.i := hm.dis _ _ _ _ _ _ la oa hha lb hhb (.inl hne)
          have hnb : ((a.conc ρ0).block != (b.conc ρ0).block) = true := by simpa [conc_eq] using hblk
          have hnb' : ((a.conc ρ0).block == (b.conc ρ0).block) = false := by simpa [conc_eq] using hblk
          have hsa : w.shape? (a.conc ρ0).block = some (tya, cura.size) := by simp [conc_eq, World.shape?, hea]
          have hsb : w.shape? (b.conc ρ0).block = some (tyb, curb.size) := by simp [conc_eq, World.shape?, heb]
          have hfa : ∀ k, w.frozen? { block := (a.conc ρ0).block, off := k } = false := fun k => by simp [conc_eq, World.frozen?, hea]
          have hfa' : w.frozen? (a.conc ρ0) = false := by simp [conc_eq, World.frozen?, hea]
          delta Extern.SlicesOverlaps.overlaps Extern.SlicesOverlaps.overlaps.match_4
          dsimp [Array.getLit]
          cases hk : curb.size with
          | zero => omega
          | succ kB =>
            rw [hk] at hsb
            by_cases h0 : n = 0 ∨ m = 0 ∨ size = 0
            · simp [run_underlying ht, hz, h0]
              done
            · simp [run_underlying ht, hz, h0, hnb, hnb', frozen, noView, viewAt, mayBeOne, stringish, shape, Sem.run, hsa, hsb, hfa, hfa']
              done
        · rfl
    · cases hs
  · rename_i h; split at h <;> cases h
  · trivial
end Go.Eng

