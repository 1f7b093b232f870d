/- THE ENGINE, EngC. -/
import Derived.Test.YtjdppjomhkbljaaEngB
import Derived.Orders
import Derived.Laws.BitsLemmas
import Derived.ProofKit
import Derived.OpenShut
import Derived.JoinedCond
set_option linter.unusedVariables false
set_option linter.unusedSimpArgs false
set_option linter.unusedSectionVars false
namespace Go.Eng
section
variable {P : Program} {C : List Contract} {O : Nat → OT} {Q : Exit → St → Prop} {S : St}

theorem vc_skip : vc P C O .skip Q S = Q .normal S := propext Iff.rfl
theorem vc_text {id : Nat} {ops : List Oper} : vc P C O (.region id ops.toArray false) Q S = stepsVC P C ops.toArray ops S (Q .normal) := propext Iff.rfl
theorem vc_draw {id : Nat} {ops : Array Oper} : vc P C O (.region id ops true) Q S = drVC P C ops (O id) S (Q .normal) := propext Iff.rfl
theorem vc_seq {a b : Code} : vc P C O (.seq a b) Q S = vc P C O a (fun e S' => match e with
    | .normal => vc P C O b Q S'
    | e => Q e S') S := propext Iff.rfl
theorem vc_cond {x : Operand} {a b : Code} : vc P C O (.cond x a b) Q S = rd S true x fun v => asB v fun t => (t = true → vc P C O a Q S) ∧ (t = false → vc P C O b Q S) := propext Iff.rfl
theorem vc_block {id : Nat} {c : Code} : vc P C O (.block id c) Q S = vc P C O c (fun e S' => match e with
    | .exit j => if j = id then Q .normal S' else Q (.exit j) S'
    | e => Q e S') S := propext Iff.rfl
theorem vc_exit {id : Nat} : vc P C O (.exit id) Q S = Q (.exit id) S := propext Iff.rfl
theorem vc_ret : vc P C O .ret Q S = Q .ret S := propext Iff.rfl

/-- it depends on x, so that simp lets x alone -/
structure Tag {α : Type 1} (x : α) : Type where
  mk ::
/-- a loop, held -/
def LoopH (P : Program) (C : List Contract) (O : Nat → OT) (c : Code) (Q : Exit → St → Prop) (S : St) (_ : Tag (C, ULift.up.{1} O, ULift.up.{1} c, ULift.up.{1} Q)) : Prop := vc P C O (.loop c) Q S
theorem vc_loopH {c : Code} : vc P C O (.loop c) Q S = LoopH P C O c Q S ⟨⟩ := propext Iff.rfl
/-- a loop: an invariant -/
theorem loopI {c : Code} {d} {J : Type} (F : J → St) (μ : J → Nat) (j : J) (h0 : Le S (F j)) (h : ∀ j, vc P C O c (fun e S' => match e with
    | .normal => ∃ j', Le S' (F j') ∧ μ j' < μ j
    | e => Q e S') (F j)) : LoopH P C O c Q S d := ⟨J, F, μ, ⟨j, h0⟩, h⟩

theorem dr_nil {ops : Array Oper} {K : St → Prop} : drVC P C ops .nil S K = K S := propext Iff.rfl
theorem dr_go {ops : List Oper} {i : Nat} {r : OT} {K : St → Prop} : drVC P C ops.toArray (.go i r) S K = stepsVC P C ops.toArray (getO ops i) S fun S' => drVC P C ops.toArray r S' K := propext Iff.rfl
theorem dr_alt {ops : List Oper} {i : Nat} {r o : OT} {K : St → Prop} : drVC P C ops.toArray (.alt i r o) S K = (stepsVC P C ops.toArray (getO ops i) S (fun S' => drVC P C ops.toArray r S' K) ∧ drVC P C ops.toArray o S K) := propext Iff.rfl
@[congr] theorem dr_congr {ops : Array Oper} {o o' : OT} {K : St → Prop} {S' : St} (h : S = S') (k : o = o') : drVC P C ops o S K = drVC P C ops o' S' K := by rw [h, k]
theorem steps_nil {ops : Array Oper} {K : St → Prop} : stepsVC P C ops [] S K = K S := propext Iff.rfl
theorem steps_plain {ops : Array Oper} {r : List Oper} {d : Option Nat} {op : Op} {ty : TypeId} {pos : String} {after : Array Edge} {K : St → Prop} :
    stepsVC P C ops (⟨d, op, ty, pos, after, none⟩ :: r) S K = opVC P C op S true fun g a S' => stepsVC P C ops r (S'.put d (.v g a)) K := propext Iff.rfl
theorem steps_guard {ops : Array Oper} {r : List Oper} {d : Option Nat} {op : Op} {ty : TypeId} {pos : String} {after : Array Edge} {j : Nat} {want : Bool} {K : St → Prop} :
    stepsVC P C ops (⟨d, op, ty, pos, after, some (j, want)⟩ :: r) S K = grdVC ops S (some (j, want)) fun γ => opVC P C op S γ fun g a S' => stepsVC P C ops r (S'.put d (.v g a)) K := propext Iff.rfl

def grdT (T : List Sl) (d : Nat) (want : Bool) (K : Bool → Prop) : Prop :=
  match T, d with
  | [], _ => False
  | s :: _, 0 => match s with
    | .v g (.c (.bool b)) => K (g && (bif want then b else !b))
    | _ => False
  | _ :: r, d + 1 => grdT r d want K

theorem grdT_eq (want : Bool) (K : Bool → Prop) : ∀ (T : List Sl) (d : Nat), grdT T d want K = match T[d]? with
        | some (.v g (.c (.bool b))) => K (g && (bif want then b else !b))
        | _ => False
  | [], d => by simp [grdT]
  | s :: r, 0 => by
    simp only [grdT, List.getElem?_cons_zero]
    cases s with
    | un => rfl
    | v g a => cases a with
      | c x => cases x <;> rfl
      | agg _ => rfl
      | tup _ => rfl
  | s :: r, d + 1 => by simpa [grdT] using grdT_eq want K r d
def grdD (ops : List Oper) (j : Nat) (K : Nat → Prop) : Prop :=
  match ops, j with
  | [], _ => False
  | o :: _, 0 => match o.dst with
    | some d => K d
    | none => False
  | _ :: r, j + 1 => grdD r j K
theorem grdD_eq (K : Nat → Prop) : ∀ (ops : List Oper) (j : Nat), grdD ops j K = match ops[j]? with
    | some o => match o.dst with
      | some d => K d
      | none => False
    | none => False
  | [], j => by simp [grdD]
  | o :: r, 0 => rfl
  | o :: r, j + 1 => by simpa [grdD] using grdD_eq K r j
theorem grd_some {ops : List Oper} {j : Nat} {want : Bool} {K : Bool → Prop} : grdVC ops.toArray S (some (j, want)) K = grdD ops j fun d => grdT S.tmps d want K := by
  rw [grdD_eq]
  simp only [grdVC, List.getElem?_toArray]
  cases ops[j]? with
  | none => rfl
  | some o =>
    obtain ⟨od, _, _, _, _, _⟩ := o
    cases od with
    | none => rfl
    | some d =>
      simp only [grdT_eq]
      cases S.tmps[d]? with
      | none => rfl
      | some s => cases s with
        | un => rfl
        | v g a => cases a with
          | c x => cases x <;> rfl
          | agg _ => rfl
          | tup _ => rfl

/-! only the state is worked on, not what stands behind -/
@[congr] theorem vc_congr {c : Code} {S' : St} (h : S = S') : vc P C O c Q S = vc P C O c Q S' := by rw [h]
@[congr] theorem steps_congr {ops : Array Oper} {l l' : List Oper} {K : St → Prop} {S' : St} (h : S = S') (k : l = l') : stepsVC P C ops l S K = stepsVC P C ops l' S' K := by rw [h, k]
@[congr] theorem op_congr {op : Op} {γ γ' : Bool} {K : Bool → AV → St → Prop} {S' : St} (h : S = S') (k : γ = γ') : opVC P C op S γ K = opVC P C op S' γ' K := by rw [h, k]
@[congr] theorem rdT_congr {T T' : List Sl} {t : Nat} {γ γ' : Bool} {K : AV → Prop} (h : T = T') (k : γ = γ') : rdT T t γ K = rdT T' t γ' K := by rw [h, k]
@[congr] theorem grdT_congr {T T' : List Sl} {t : Nat} {w : Bool} {K : Bool → Prop} (h : T = T') : grdT T t w K = grdT T' t w K := by rw [h]
@[congr] theorem asB_congr {a a' : AV} {K : Bool → Prop} (h : a = a') : asB a K = asB a' K := by rw [h]
@[congr] theorem asI_congr {a a' : AV} {K : Int → Prop} (h : a = a') : asI a K = asI a' K := by rw [h]
@[congr] theorem asPtr_congr {a a' : AV} {K : AA → Prop} (h : a = a') : asPtr a K = asPtr a' K := by rw [h]
@[congr] theorem asSl_congr {a a' : AV} {K : AA → Nat → Nat → Prop} (h : a = a') : asSl a K = asSl a' K := by rw [h]
@[congr] theorem bin_congr {t : TypeId} {op : BinOp} {a a' b b' : AV} {γ γ' : Bool} {K : AV → Prop} (h : a = a') (h' : b = b') (k : γ = γ') : binVC P t op a b γ K = binVC P t op a' b' γ' K := by rw [h, h', k]
@[congr] theorem un_congr {op : UnOp} {a a' : AV} {K : AV → Prop} (h : a = a') : unVC op a K = unVC op a' K := by rw [h]
@[congr] theorem load_congr {γ γ' : Bool} {t : TypeId} {a a' : AA} {K : AV → Prop} {S' : St} (h : S = S') (h' : a = a') (k : γ = γ') : loadVC P S γ t a K = loadVC P S' γ' t a' K := by rw [h, h', k]

/-! constants -/
section
variable {γ : Bool} {K : AV → Prop}
theorem rd_tmp {t : Nat} : rd S γ (.tmp t) K = rdT S.tmps t γ K := propext Iff.rfl
theorem rd_int {k : IntKind} {n : Int} : rd S γ (.const (.int k n)) K = K (.c (.int k n)) := propext Iff.rfl
theorem rd_bool {b : Bool} : rd S γ (.const (.bool b)) K = K (.c (.bool b)) := propext Iff.rfl
theorem rd_str {s : ByteArray} : rd S γ (.const (.string s)) K = K (.c (.str s)) := propext Iff.rfl
theorem rd_nilsl : rd S γ (.const (.slice none 0 0)) K = K (.c (.sl ⟨.nil, 0, 0, 0⟩ 0 0)) := propext Iff.rfl
theorem rd_func {f : FuncId} : rd S γ (.func f) K = K (.c (.clo f [])) := propext Iff.rfl
theorem rdT_nil {t : Nat} : rdT [] t γ K = False := propext Iff.rfl
theorem rdT_hit {g : Bool} {a : AV} {r : List Sl} : rdT (.v g a :: r) 0 γ K = ((γ = true → g = true) ∧ K a) := propext Iff.rfl
theorem rdT_un {r : List Sl} : rdT (.un :: r) 0 γ K = False := propext Iff.rfl
theorem rdT_next {s : Sl} {r : List Sl} {t : Nat} : rdT (s :: r) (t + 1) γ K = rdT r t γ K := by cases s <;> rfl
end

theorem end_pure {rs : List ResultVar} {M : RId → Option Rg} {val : AV} {e : Exit} {T : List Sl} {L : List Rg} :
    endVC P rs M (fun _ : Unit => True) (fun _ => val) (fun _ => []) (fun _ => []) e ⟨T, M, [], L⟩ =
    ((match e with
      | .normal | .ret => True
      | _ => False) ∧ exitVC P rs ⟨T, M, [], L⟩ fun av => av.eqv (val.ren []) ∧ val.cl 0) := by
  unfold endVC
  congr
  funext av
  apply propext
  constructor
  · rintro ⟨_, gs, τ, _, hm, ⟨h1, h2⟩, _⟩
    have : τ = [] := by
      have := toL_length hm.loc
      exact List.eq_nil_of_length_eq_zero this
    subst this
    exact ⟨h1, h2⟩
  · rintro ⟨h1, h2⟩
    exact ⟨(), [], [], trivial, ⟨rfl, List.nodup_nil, trivial, trivial, trivial⟩, ⟨h1, h2⟩, trivial⟩
end
end Go.Eng

namespace Go.Eng

def optK {α : Type} (o : Option α) (K : α → Prop) : Prop :=
  match o with
  | some a => K a
  | none => False
def rgK (o : Option Rg) (Kb : TypeId → List AC → Prop) (Ka : Bool → TypeId → Nat → Nat → (Nat → Nat) → (Nat → Nat) → (Nat → Nat → List AC) → Prop) (Kn : Prop) : Prop :=
  match o with
  | some (.box t cs) => Kb t cs
  | some (.arr o t s n c l g) => Ka o t s n c l g
  | none => Kn
@[congr] theorem optK_congr {α : Type} {o o' : Option α} {K : α → Prop} (h : o = o') : optK o K = optK o' K := by rw [h]
@[congr] theorem rgK_congr {o o' : Option Rg} {Kb Ka Kn} (h : o = o') : rgK o Kb Ka Kn = rgK o' Kb Ka Kn := by rw [h]
theorem optK_some {α : Type} {a : α} {K : α → Prop} : optK (some a) K = K a := propext Iff.rfl
theorem optK_none {α : Type} {K : α → Prop} : optK none K = False := propext Iff.rfl
theorem rgK_box {t cs Kb Ka Kn} : rgK (some (.box t cs)) Kb Ka Kn = Kb t cs := propext Iff.rfl
theorem rgK_arr {o t s n c l g Kb Ka Kn} : rgK (some (.arr o t s n c l g)) Kb Ka Kn = Ka o t s n c l g := propext Iff.rfl
theorem rgK_none {Kb Ka Kn} : rgK none Kb Ka Kn = Kn := propext Iff.rfl

section
variable {P : Program} {C : List Contract} {S : St} {γ : Bool} {K : Bool → AV → St → Prop}

/-- an operand taken as something -/
def avK (a : AV) (K : AV → Prop) : Prop := K a

theorem look_nil {S : St} : S.look .nil = none := Eq.trans rfl rfl
theorem look_loc {T : List Sl} {B : RId → Option Rg} {V : List (RId × Rg)} {L : List Rg} {n : Nat} : St.look ⟨T, B, V, L⟩ (.loc n) = L[n]? := Eq.trans rfl rfl
theorem look_out {T : List Sl} {B : RId → Option Rg} {V : List (RId × Rg)} {L : List Rg} {x : RId} : St.look ⟨T, B, V, L⟩ (.out x) = match findO V x with
    | some g => some g
    | none => (B x).map Rg.up := Eq.trans rfl rfl
theorem op_move {x : Operand} : opVC P C (.move x) S γ K = rd S γ x fun a => K γ a S := propext Iff.rfl
theorem op_assign {x : Operand} : opVC P C (.assign x) S γ K = rd S γ x fun a => K γ a S := propext Iff.rfl
theorem op_pick {c a b : Operand} : opVC P C (.pick c a b) S γ K = rd S γ c fun c => asB c fun c => rd S (γ && c) a fun a => asBG (γ && c) a fun a => rd S (γ && !c) b fun b => asBG (γ && !c) b fun b => K γ (B (bif c then a else b)) S := propext Iff.rfl
theorem op_box {t : TypeId} {x : Operand} : opVC P C (.box t x) S γ K = rd S γ x fun a => a.noTup = true ∧ effVC S γ K fun K => K (.c (.ptr S.nx)) (S.alloc (.box t a.cells)) := propext Iff.rfl
theorem op_alloc {t : TypeId} : opVC P C (.alloc t) S γ K = optK (zeroP P t) fun z => effVC S γ K fun K => K (.c (.ptr S.nx)) (S.alloc (.box t z)) := by
  simp only [opVC, optK]
  cases zeroP P t <;> rfl
theorem op_build' {t : TypeId} {ps : Array (Nat × Operand)} : opVC P C (.build t ps) S γ K = optK (zeroP P t) fun z => optK (fldsP P t) fun l => buildVC S γ l z ps.toList fun cs => K γ (.agg cs) S := by
  simp only [opVC, optK]
  cases zeroP P t <;> cases fldsP P t <;> rfl
theorem op_build {t : TypeId} {ps : List (Nat × Operand)} : opVC P C (.build t ps.toArray) S γ K = optK (zeroP P t) fun z => optK (fldsP P t) fun l => buildVC S γ l z ps fun cs => K γ (.agg cs) S := op_build'
theorem op_buildSlice' {t : TypeId} {n : Nat} {ps : Array (Nat × Operand)} : opVC P C (.buildSlice t n ps) S γ K = optK (elP P t) fun e => optK (zeroP P e.1) fun z =>
    (z.length = e.2.1 ∧ 0 < e.2.1 ∧ n * e.2.1 ≤ 16777216) ∧ if n = 0 then ps.toList = [] ∧ K γ (.c (.sl ⟨.nil, 0, 0, 0⟩ 0 0)) S else sliceVC S γ n e.2.1 (List.replicate n z) ps.toList fun l => effVC S γ K fun K => K (.c (.sl S.nx n n)) (S.alloc (.rows true e.1 e.2.1 [(n, l)])) := by
  simp only [opVC, optK]
  cases elP P t with
  | none => rfl
  | some e => obtain ⟨e, s, b⟩ := e; cases h : zeroP P e <;> simp [h]
theorem op_buildSlice {t : TypeId} {n : Nat} {ps : List (Nat × Operand)} : opVC P C (.buildSlice t n ps.toArray) S γ K = optK (elP P t) fun e => optK (zeroP P e.1) fun z =>
    (z.length = e.2.1 ∧ 0 < e.2.1 ∧ n * e.2.1 ≤ 16777216) ∧ if n = 0 then ps = [] ∧ K γ (.c (.sl ⟨.nil, 0, 0, 0⟩ 0 0)) S else sliceVC S γ n e.2.1 (List.replicate n z) ps fun l => effVC S γ K fun K => K (.c (.sl S.nx n n)) (S.alloc (.rows true e.1 e.2.1 [(n, l)])) := op_buildSlice'
theorem asBG_b {b : Bool} {K : Bool → Prop} : asBG γ (.c (.bool b)) K = K b := Eq.trans rfl rfl
theorem op_load {t : TypeId} {x : Operand} : opVC P C (.load t x) S γ K = rd S γ x fun a => asPtr a fun p => loadVC P S γ t p fun v => K γ v S := propext Iff.rfl
theorem load_eq {t : TypeId} {a : AA} {K : AV → Prop} : loadVC P S γ t a K = optK (szP P t) fun p => rgK (S.look a.r)
    (fun _ cs => (a.k = 0 ∧ a.i = 0 ∧ a.f + p.2 ≤ cs.length ∧ (p.1 = false → p.2 = 1)) ∧ K (cut p.1 a.f p.2 cs))
    (fun _ _ sz cnt _ len get => (γ = true → a.i < cnt ∧ a.k < len a.i) ∧ (a.f + p.2 ≤ sz ∧ (p.1 = false → p.2 = 1)) ∧ K (cut p.1 a.f p.2 (get a.i a.k))) False := by
  simp only [loadVC, optK, rgK]
  cases szP P t with
  | none => rfl
  | some p => obtain ⟨ag, n⟩ := p; cases S.look a.r with
    | none => rfl
    | some g => cases g <;> rfl
theorem op_store {t : TypeId} {x y : Operand} : opVC P C (.store t x y) S γ K = rd S γ x fun a => asPtr a fun p => rd S γ y fun v => (γ = true → storeVC P S t p v fun S' => K false (I 0) S') ∧ (γ = false → K false (I 0) S) := propext Iff.rfl
theorem store_eq {t : TypeId} {a : AA} {v : AV} {K : St → Prop} : storeVC P S t a v K = optK (szP P t) fun p => (v.cells.length = p.2 ∧ 0 < p.2) ∧ rgK (S.look a.r)
    (fun ty cs => (a.k = 0 ∧ a.i = 0 ∧ a.f + p.2 ≤ cs.length) ∧ K (S.setRg a.r (.box ty (patch cs a.f v.cells))))
    (fun own ty sz cnt cap len get => (own = true ∧ a.i < cnt ∧ a.k < len a.i ∧ a.f + p.2 ≤ sz) ∧
        K (S.setRg a.r (tidy (.arr own ty sz cnt cap len fun i k => if i = a.i ∧ k = a.k then (patch (get a.i a.k) a.f v.cells).take sz else get i k)))) False := by
  simp only [storeVC, optK, rgK]
  cases szP P t with
  | none => rfl
  | some p => obtain ⟨ag, n⟩ := p; cases S.look a.r with
    | none => rfl
    | some g => cases g <;> rfl
theorem op_nilCheck {x : Operand} : opVC P C (.nilCheck x) S γ K = rd S γ x fun a => asPtr a fun p => K γ (.c (.ptr p)) S := propext Iff.rfl
theorem op_bin {op : BinOp} {t : TypeId} {x y : Operand} {ty : TypeId} : opVC P C (.binOp op t x y ty) S γ K = if nilO y = true then rd S γ x fun a => nilVC P t op a fun v => K γ v S else rd S γ x fun a => rd S γ y fun b => binVC P t op a b γ fun v => K γ v S := propext Iff.rfl
theorem op_un {op : UnOp} {t : TypeId} {x : Operand} : opVC P C (.unOp op t x) S γ K = rd S γ x fun a => unVC op a fun v => K γ v S := propext Iff.rfl
theorem op_convert {s d : TypeId} {x : Operand} : opVC P C (.convert s d x) S γ K = optK (cvP P s d) fun v => rd S γ x fun a => cvVC S γ v a K := by
  have H : ∀ o : Option Cv, (rd S γ x fun a => match o with
    | some v => cvVC S γ v a K
    | none => False) = optK o fun v => rd S γ x fun a => cvVC S γ v a K := by
    intro o
    cases o with
    | some v => rfl
    | none =>
      simp only [optK, eq_iff_iff, iff_false]
      intro h
      obtain ⟨_, h⟩ := rd_false h
      exact h
  exact H _
theorem op_makeSlice {t : TypeId} {l c : Operand} : opVC P C (.makeSlice t l c) S γ K = optK (elP P t) fun e => optK (zeroP P e.1) fun z => rd S γ l fun l => asI l fun l => rd S γ c fun c => asI c fun c => effVC S γ K fun K =>
          (z.length = e.2.1 ∧ 0 ≤ l ∧ l ≤ c ∧ c ≤ 9223372036854775807 ∧ e.2.2 * c ≤ 140737488355328) ∧
          K (.c (.sl S.nx l.toNat c.toNat)) (S.alloc (.rows true e.1 e.2.1 [(c.toNat, List.replicate c.toNat z)])) := by
  simp only [opVC, optK]
  cases elP P t with
  | none => rfl
  | some e => obtain ⟨e, s, b⟩ := e; cases h : zeroP P e <;> simp [h]
def sl2VC (P : Program) (S : St) (γ : Bool) (t : TypeId) (lo hi : Option Operand) (a : AV) (K : AV → Prop) : Prop :=
  match a with
  | .c (.sl p n c) => optK (elP P t) fun e => rgK (S.look p.r)
      (fun _ _ => optI S γ lo 0 fun l => optI S γ hi n fun h => (γ = true → l = 0 ∧ h = 0 ∧ c = 0) ∧ K (.c (.sl p 0 0)))
      (fun _ _ sz' _ _ _ _ => e.2.1 = sz' ∧ optI S γ lo 0 fun l => optI S γ hi n fun h => (γ = true → 0 ≤ l ∧ l ≤ h ∧ h ≤ c) ∧ K (.c (.sl { p with k := p.k + l.toNat } (h.toNat - l.toNat) (c - l.toNat))))
      (optI S γ lo 0 fun l => optI S γ hi n fun h => (γ = true → l = 0 ∧ h = 0 ∧ c = 0) ∧ K (.c (.sl p 0 0)))
  | .c (.str s) => strD P t = true ∧ optI S γ lo 0 fun l => optI S γ hi s.size fun h => (γ = true → 0 ≤ l ∧ l ≤ h ∧ h ≤ s.size) ∧ K (.c (.str (s.extract l.toNat h.toNat)))
  | _ => False
theorem op_slice {t : TypeId} {x : Operand} {lo hi : Option Operand} : opVC P C (.slice t x lo hi none) S γ K = rd S γ x fun a => sl2VC P S γ t lo hi a fun v => K γ v S := by
  simp only [opVC]
  congr
  funext a
  cases a with
  | c x =>
    cases x with
    | sl p n c =>
      simp only [sl2VC, optK, rgK]
      cases elP P t with
      | none => rfl
      | some e => obtain ⟨e, s, b⟩ := e; cases S.look p.r with
        | none => rfl
        | some g => cases g <;> rfl
    | _ => rfl
  | _ => rfl
theorem sl2_sl {t : TypeId} {lo hi : Option Operand} {p : AA} {n c : Nat} {K : AV → Prop} : sl2VC P S γ t lo hi (.c (.sl p n c)) K = optK (elP P t) fun e => rgK (S.look p.r)
      (fun _ _ => optI S γ lo 0 fun l => optI S γ hi n fun h => (γ = true → l = 0 ∧ h = 0 ∧ c = 0) ∧ K (.c (.sl p 0 0)))
      (fun _ _ sz' _ _ _ _ => e.2.1 = sz' ∧ optI S γ lo 0 fun l => optI S γ hi n fun h => (γ = true → 0 ≤ l ∧ l ≤ h ∧ h ≤ c) ∧ K (.c (.sl { p with k := p.k + l.toNat } (h.toNat - l.toNat) (c - l.toNat))))
      (optI S γ lo 0 fun l => optI S γ hi n fun h => (γ = true → l = 0 ∧ h = 0 ∧ c = 0) ∧ K (.c (.sl p 0 0))) := propext Iff.rfl
theorem sl2_str {t : TypeId} {lo hi : Option Operand} {s : ByteArray} {K : AV → Prop} : sl2VC P S γ t lo hi (.c (.str s)) K = (strD P t = true ∧ optI S γ lo 0 fun l => optI S γ hi s.size fun h => (γ = true → 0 ≤ l ∧ l ≤ h ∧ h ≤ s.size) ∧ K (.c (.str (s.extract l.toNat h.toNat)))) := propext Iff.rfl
@[congr] theorem sl2_congr {t : TypeId} {lo hi : Option Operand} {a a' : AV} {K : AV → Prop} (h : a = a') : sl2VC P S γ t lo hi a K = sl2VC P S γ t lo hi a' K := by rw [h]
theorem optI_none {d : Int} {K : Int → Prop} : optI S γ none d K = K d := propext Iff.rfl
theorem optI_some {o : Operand} {d : Int} {K : Int → Prop} : optI S γ (some o) d K = rd S γ o fun a => asI a K := propext Iff.rfl
theorem op_fieldAddr {t : TypeId} {x : Operand} {j : Nat} : opVC P C (.fieldAddr t x j) S γ K = rd S γ x fun a => asPtr a fun p => optK (fldP P t j) fun q => K γ (.c (.ptr { p with f := p.f + q.1 })) S := by
  simp only [opVC]
  congr
  funext a
  congr
  funext p
  simp only [optK]
  cases fldP P t j <;> rfl
def asAgg (a : AV) (K : List AC → Prop) : Prop :=
  match a with
  | .agg cs => K cs
  | _ => False
theorem asAgg_agg {cs : List AC} {K : List AC → Prop} : asAgg (.agg cs) K = K cs := propext Iff.rfl
@[congr] theorem asAgg_congr {a a' : AV} {K : List AC → Prop} (h : a = a') : asAgg a K = asAgg a' K := by rw [h]
theorem op_field {t : TypeId} {x : Operand} {j : Nat} : opVC P C (.field t x j) S γ K = rd S γ x fun a => asAgg a fun cs => optK (fldP P t j) fun q => (q.1 + q.2.2 ≤ cs.length ∧ (q.2.1 = false → q.2.2 = 1)) ∧ K γ (cut q.2.1 q.1 q.2.2 cs) S := by
  simp only [opVC]
  congr
  funext a
  cases a with
  | agg cs =>
    simp only [asAgg, optK]
    cases fldP P t j with
    | none => rfl
    | some q => obtain ⟨_, _, _⟩ := q; rfl
  | _ => rfl
theorem op_indexAddr {t : TypeId} {x y : Operand} : opVC P C (.indexAddr t x y) S γ K = rd S γ x fun a => asSl a fun p n _ => rd S γ y fun j => asI j fun j => optK (elP P t) fun e => rgK (S.look p.r) (fun _ _ => False)
    (fun _ _ sz' _ _ _ _ => (e.2.1 = sz' ∧ (γ = true → 0 ≤ j ∧ j < n)) ∧ K γ (.c (.ptr { p with k := p.k + j.toNat })) S) False := by
  simp only [opVC]
  congr
  funext a
  congr
  funext p n _
  congr
  funext j
  congr
  funext j
  simp only [optK, rgK]
  cases elP P t with
  | none => rfl
  | some e => obtain ⟨e, s, b⟩ := e; cases S.look p.r with
    | none => rfl
    | some g => cases g <;> rfl
def asStr (a : AV) (K : ByteArray → Prop) : Prop :=
  match a with
  | .c (.str s) => K s
  | _ => False
theorem asStr_str {s : ByteArray} {K : ByteArray → Prop} : asStr (.c (.str s)) K = K s := propext Iff.rfl
@[congr] theorem asStr_congr {a a' : AV} {K : ByteArray → Prop} (h : a = a') : asStr a K = asStr a' K := by rw [h]
theorem op_index {t : TypeId} {x y : Operand} : opVC P C (.index t x y) S γ K = rd S γ x fun a => rd S γ y fun j => asI j fun j => asStr a fun s => (strD P t = true ∧ (γ = true → 0 ≤ j ∧ j < s.size)) ∧ K γ (.c (.int .u8 ((s.data.toList.getD j.toNat 0).toNat))) S := by
  exact propext Iff.rfl
def exK (a : AV) (j : Nat) (K : AV → Prop) : Prop :=
  match a with
  | .tup l => match l[j]? with
    | some (true, cs) => K (.agg cs)
    | some (false, [c]) => K (.c c)
    | _ => False
  | _ => False
@[congr] theorem exK_congr {a a' : AV} {j : Nat} {K : AV → Prop} (h : a = a') : exK a j K = exK a' j K := by rw [h]
theorem exK_agg {l : List (Bool × List AC)} {cs : List AC} {K : AV → Prop} : exK (.tup ((true, cs) :: l)) 0 K = K (.agg cs) := propext Iff.rfl
theorem exK_c {l : List (Bool × List AC)} {c : AC} {K : AV → Prop} : exK (.tup ((false, [c]) :: l)) 0 K = K (.c c) := propext Iff.rfl
theorem exK_next {l : List (Bool × List AC)} {p : Bool × List AC} {j : Nat} {K : AV → Prop} : exK (.tup (p :: l)) (j + 1) K = exK (.tup l) j K := propext Iff.rfl
theorem op_extract {x : Operand} {j : Nat} : opVC P C (.extract x j) S γ K = rd S γ x fun a => exK a j fun v => K γ v S := by
  exact propext Iff.rfl

def specVC (sp : Spec) (S : St) (γ : Bool) (K : Bool → AV → St → Prop) : Prop :=
  match sp with
  | .pure pre val => (γ = true → pre) ∧ K γ (val.dn S.loc.length) S
  | .eff pre ι cond val new upd => (γ = true → pre ∧ ∀ p : ι, cond p → K true ((val p).dn S.loc.length) (({ S with loc := S.loc ++ dnr S.loc.length (new p) } : St).setAll S.loc.length (upd p))) ∧ (γ = false → K false (I 0) S)
  | .bad => False
@[congr] theorem spec_congr {sp sp' : Spec} (h : sp = sp') : specVC sp S γ K = specVC sp' S γ K := by rw [h]
theorem spec_pure {pre : Prop} {val : AV} : specVC (.pure pre val) S γ K = ((γ = true → pre) ∧ K γ (val.dn S.loc.length) S) := propext Iff.rfl
theorem spec_eff {pre : Prop} {ι : Type} {cond : ι → Prop} {val : ι → AV} {new : ι → List Rg} {upd : ι → List (RId × Rg)} : specVC (.eff pre ι cond val new upd) S γ K =
  ((γ = true → pre ∧ ∀ p : ι, cond p → K true ((val p).dn S.loc.length) (({ S with loc := S.loc ++ dnr S.loc.length (new p) } : St).setAll S.loc.length (upd p))) ∧ (γ = false → K false (I 0) S)) := propext Iff.rfl
theorem call_eq {f : FuncId} {args : List AV} : callVC C S γ f args K = specVC (findC C f args S.look) S γ K := by
  unfold callVC specVC
  rfl
def asClo (a : AV) (K : FuncId → List AA → Prop) : Prop :=
  match a with
  | .c (.clo f caps) => K f caps
  | _ => False
theorem asClo_clo {f : FuncId} {caps : List AA} {K : FuncId → List AA → Prop} : asClo (.c (.clo f caps)) K = K f caps := propext Iff.rfl
@[congr] theorem asClo_congr {a a' : AV} {K : FuncId → List AA → Prop} (h : a = a') : asClo a K = asClo a' K := by rw [h]
theorem op_call' {f : Operand} {args : Array Operand} {ats : Array TypeId} : opVC P C (.call { callee := .value f, args := args, argTypes := ats }) S γ K = rd S γ f fun f => asClo f fun f caps => rds S γ args.toList fun l => specVC (findC C f (l ++ caps.map fun a => .c (.ptr a)) S.look) S γ K := by
  exact propext Iff.rfl
theorem op_call {f : Operand} {args : List Operand} {ats : Array TypeId} : opVC P C (.call { callee := .value f, args := args.toArray, argTypes := ats }) S γ K = rd S γ f fun f => asClo f fun f caps => rds S γ args fun l => specVC (findC C f (l ++ caps.map fun a => .c (.ptr a)) S.look) S γ K := op_call'
theorem op_bi' {b : Builtin} {args : Array Operand} {ats : Array TypeId} : opVC P C (.call { callee := .builtin b, args := args, argTypes := ats }) S γ K = rds S γ args.toList fun l => biVC P S γ b ats.toList l K := propext Iff.rfl
theorem op_bi {b : Builtin} {args : List Operand} {ats : List TypeId} : opVC P C (.call { callee := .builtin b, args := args.toArray, argTypes := ats.toArray }) S γ K = rds S γ args fun l => biVC P S γ b ats l K := propext Iff.rfl
@[congr] theorem bi_congr {b : Builtin} {ts : List TypeId} {l l' : List AV} (h : l = l') : biVC P S γ b ts l K = biVC P S γ b ts l' K := by rw [h]
theorem bi_len_sl {a : AA} {n c : Nat} {t : TypeId} : biVC P S γ .len [t] [.c (.sl a n c)] K = (slD P t = true ∧ K γ (I n) S) := propext Iff.rfl
theorem bi_len_str {s : ByteArray} {t : TypeId} : biVC P S γ .len [t] [.c (.str s)] K = ((γ = true → strD P t = true) ∧ K γ (I s.size) S) := propext Iff.rfl
theorem bi_len_i {k : IntKind} {n : Int} {t : TypeId} : biVC P S γ .len [t] [.c (.int k n)] K = (γ = false ∧ K γ (I 0) S) := propext Iff.rfl
theorem bi_len_b {b : Bool} {t : TypeId} : biVC P S γ .len [t] [.c (.bool b)] K = (γ = false ∧ K γ (I 0) S) := propext Iff.rfl
theorem bi_len_p {b : AA} {t : TypeId} : biVC P S γ .len [t] [.c (.ptr b)] K = (γ = false ∧ K γ (I 0) S) := propext Iff.rfl
theorem bi_len_c {f : FuncId} {b : List AA} {t : TypeId} : biVC P S γ .len [t] [.c (.clo f b)] K = (γ = false ∧ K γ (I 0) S) := propext Iff.rfl
theorem bi_len_r {b : RV} {t : TypeId} : biVC P S γ .len [t] [.c (.raw b)] K = (γ = false ∧ K γ (I 0) S) := propext Iff.rfl
theorem bi_cap {a : AA} {n c : Nat} {t : TypeId} : biVC P S γ .cap [t] [.c (.sl a n c)] K = (slD P t = true ∧ K γ (I c) S) := propext Iff.rfl
theorem bi_min {k k' : IntKind} {x y : Int} {ts : List TypeId} : biVC P S γ .min ts [.c (.int k x), .c (.int k' y)] K = (k = k' ∧ K γ (.c (.int k (if y < x then y else x))) S) := propext Iff.rfl
theorem bi_max {k k' : IntKind} {x y : Int} {ts : List TypeId} : biVC P S γ .max ts [.c (.int k x), .c (.int k' y)] K = (k = k' ∧ K γ (.c (.int k (if x < y then y else x))) S) := propext Iff.rfl
def wrK (S : St) (a : AA) (sz m : Nat) (news : Nat → List AC) (K : St → Prop) : Prop := wrVC S a sz m news K
theorem wr_eq {a : AA} {sz m : Nat} {news : Nat → List AC} {K : St → Prop} : wrVC S a sz m news K = rgK (S.look a.r) (fun _ _ => False) (fun own ty sz' cnt cp len get => (own = true ∧ sz' = sz ∧ a.f = 0 ∧ a.i < cnt ∧ a.k + m ≤ len a.i) ∧
      K (S.setRg a.r (tidy (.arr own ty sz' cnt cp (fun i => if i = a.i then max (len i) (a.k + 0 + m) else len i)
        fun i k => if i = a.i ∧ a.k + 0 ≤ k ∧ k < a.k + 0 + m then nth news (k - (a.k + 0)) else get i k)))) False := by
  simp only [wrVC, rgK]
  cases S.look a.r with
  | none => rfl
  | some g => cases g <;> rfl
theorem bi_clear {a : AA} {n c : Nat} {t : TypeId} : biVC P S γ .clear [t] [.c (.sl a n c)] K = (effVC S γ K fun K => (n = 0 → slD P t = true ∧ K (.tup []) S) ∧
      (0 < n → optK (elP P t) fun e => optK (zeroP P e.1) fun z => z.length = e.2.1 ∧ wrVC S a e.2.1 n (fun _ => z) fun S' => K (.tup []) S')) := by
  simp only [biVC, effVC, optK]
  cases elP P t with
  | none => rfl
  | some e => obtain ⟨e, s, b⟩ := e; cases h : zeroP P e <;> simp [h]
theorem bi_copy {a b : AA} {n c m c' : Nat} {t t' : TypeId} : biVC P S γ .copy [t, t'] [.c (.sl a n c), .c (.sl b m c')] K = (effVC S γ K fun K => (min m n = 0 → (elP P t).isSome = true ∧ K (I 0) S) ∧
      (0 < min m n → rgK (S.look b.r) (fun _ _ => False) (fun _ _ sz cnt _ len get => (b.f = 0 ∧ b.i < cnt ∧ b.k + min m n ≤ len b.i ∧ (elP P t).map (·.2.1) = some sz) ∧
            wrVC S a sz (min m n) (fun k => get b.i (b.k + k)) fun S' => K (I ((min m n : Nat))) S') False)) := by
  simp only [biVC, effVC, rgK]
  cases S.look b.r with
  | none => rfl
  | some g => cases g <;> rfl
theorem bi_append {a b : AA} {n c m c' : Nat} {t t' : TypeId} : biVC P S γ .append [t, t'] [.c (.sl a n c), .c (.sl b m c')] K = (effVC S γ K fun K => t = t' ∧
      (m = 0 → (elP P t).isSome = true ∧ K (.c (.sl a n c)) S) ∧
      (0 < m → rgK (S.look b.r) (fun _ _ => False) (fun _ _ sz cnt _ len get => (b.f = 0 ∧ b.i < cnt ∧ b.k + m ≤ len b.i ∧ (elP P t).map (·.2.1) = some sz) ∧
          appVC P S t a n c m (fun k => get b.i (b.k + k)) K) False)) := by
  simp only [biVC, effVC, rgK]
  cases S.look b.r with
  | none => rfl
  | some g => cases g <;> rfl
def atG (a : AA) : Option Rg → Nat → List AC
  | some (.arr _ _ _ _ _ _ get) => fun k => get a.i (a.k + k)
  | _ => fun _ => []
theorem at_atG {S : St} {a : AA} : S.at a = atG a (S.look a.r) := by
  funext k
  unfold St.at atG
  cases S.look a.r with
  | none => rfl
  | some g => cases g <;> rfl
theorem app_eq {t : TypeId} {a : AA} {n cap m : Nat} {news : Nat → List AC} {K : AV → St → Prop} : appVC P S t a n cap m news K = optK (elP P t) fun e => (zeroP P e.1).map List.length = some e.2.1 ∧ (n + m ≤ 9223372036854775807 ∧ (n + m) * e.2.2 ≤ 140737488355328) ∧
      (n + m ≤ cap → rgK (S.look a.r) (fun _ _ => False) (fun own ty sz' cnt cp len get => (own = true ∧ sz' = e.2.1 ∧ a.f = 0 ∧ a.i < cnt ∧ a.k + n ≤ len a.i ∧ a.k + cap ≤ cp a.i) ∧
            K (.c (.sl a (n + m) cap)) (S.setRg a.r (tidy (.arr own ty sz' cnt cp (fun i => if i = a.i then max (len i) (a.k + n + m) else len i)
              fun i k => if i = a.i ∧ a.k + n ≤ k ∧ k < a.k + n + m then nth news (k - (a.k + n)) else get i k)))) False) ∧
      (cap < n + m → (n = 0 ∨ rgK (S.look a.r) (fun _ _ => False) (fun _ _ sz' cnt _ len _ => sz' = e.2.1 ∧ a.f = 0 ∧ a.i < cnt ∧ a.k + n ≤ len a.i) False) ∧
        ∀ c, n + m ≤ c → c ≤ 9223372036854775807 → K (.c (.sl S.nx (n + m) c)) (S.alloc (.rows true e.1 e.2.1 [(c, win (atG a (S.look a.r)) n ++ win news m)]))) := by
  simp only [appVC, optK, rgK, at_atG]
  cases elP P t with
  | none => rfl
  | some e => obtain ⟨e, s, b⟩ := e; cases S.look a.r with
    | none => rfl
    | some g => cases g <;> rfl
theorem cv_int {k k' : IntKind} {n : Int} : cvVC S γ (.int k) (.c (.int k' n)) K = K γ (.c (.int k (k.wrap n))) S := propext Iff.rfl
theorem cv_str {s : ByteArray} : cvVC S γ .str (.c (.str s)) K = K γ (.c (.str s)) S := propext Iff.rfl
@[congr] theorem cv_congr {v v' : Cv} {a a' : AV} (h : v = v') (k : a = a') : cvVC S γ v a K = cvVC S γ v' a' K := by rw [h, k]
theorem cv_s2b {e : TypeId} {s : ByteArray} : cvVC S γ (.s2b e) (.c (.str s)) K = (effVC S γ K fun K => ∀ c, s.size ≤ c → K (.c (.sl S.nx s.size c)) (S.alloc (.rows false e 1 [(c, s.data.toList.map fun b => [.int .u8 b.toNat])]))) := propext Iff.rfl
theorem cv_b2s {a : AA} {n c : Nat} : cvVC S γ .b2s (.c (.sl a n c)) K = if n = 0 then K γ (.c (.str .empty)) S else rgK (S.look a.r) (fun _ _ => False) (fun _ _ sz cnt _ len get => (sz = 1 ∧ a.f = 0 ∧ (γ = true → a.i < cnt ∧ a.k + n ≤ len a.i)) ∧
        ∃ s : List UInt8, (γ = true → s.length = n ∧ ∀ j, j < n → get a.i (a.k + j) = [.int .u8 (s.getD j 0).toNat]) ∧ K γ (.c (.str ⟨s.toArray⟩)) S) False := by
  simp only [cvVC, rgK]
  cases S.look a.r with
  | none => rfl
  | some g => cases g <;> rfl
theorem cv_own {a : AA} {n c : Nat} : cvVC S γ .own (.c (.sl a n c)) K = (effVC S γ K fun K => rgK (S.look a.r) (fun _ _ => False) (fun own ty sz cnt cap len get => (own = true ∧ a.i < cnt ∧ 0 < cap a.i ∧ 0 < c) ∧ K (.c (.sl a n c)) (S.setRg a.r (.arr false ty sz cnt cap len get))) False) := by
  simp only [cvVC, effVC, rgK]
  cases S.look a.r with
  | none => rfl
  | some g => cases g <;> rfl
theorem eff_true {h : (AV → St → Prop) → Prop} : effVC S true K h = h (K true) := by simp [effVC]
theorem eff_false {h : (AV → St → Prop) → Prop} : effVC S false K h = K false (I 0) S := by simp [effVC]
@[congr] theorem eff_congr {γ' : Bool} {h : (AV → St → Prop) → Prop} (k : γ = γ') : effVC S γ K h = effVC S γ' K h := by rw [k]
theorem asB_b {b : Bool} {K : Bool → Prop} : asB (.c (.bool b)) K = K b := propext Iff.rfl
theorem asI_i {k : IntKind} {n : Int} {K : Int → Prop} : asI (.c (.int k n)) K = K n := propext Iff.rfl
theorem asPtr_p {p : AA} {K : AA → Prop} : asPtr (.c (.ptr p)) K = K p := propext Iff.rfl
theorem asSl_s {p : AA} {n c : Nat} {K : AA → Nat → Nat → Prop} : asSl (.c (.sl p n c)) K = K p n c := propext Iff.rfl
theorem rds_nil {K : List AV → Prop} : rds S γ [] K = K [] := propext Iff.rfl
theorem rds_cons {x : Operand} {xs : List Operand} {K : List AV → Prop} : rds S γ (x :: xs) K = rd S γ x fun a => rds S γ xs fun l => K (a :: l) := propext Iff.rfl
theorem un_not {b : Bool} {K : AV → Prop} : unVC .not (.c (.bool b)) K = K (B (!b)) := propext Iff.rfl
theorem un_neg {k : IntKind} {n : Int} {K : AV → Prop} : unVC .neg (.c (.int k n)) K = K (.c (.int k (k.wrap (0 - n)))) := propext Iff.rfl
theorem findC_nil {f : FuncId} {args : List AV} {M : RId → Option Rg} : findC [] f args M = .bad := rfl
theorem findC_hit {f : FuncId} {sp : List AV → (RId → Option Rg) → Spec} {r : List Contract} {args : List AV} {M : RId → Option Rg} : findC (⟨f, sp⟩ :: r) f args M = sp args M := by simp [findC]
theorem findC_next {f g : FuncId} {sp : List AV → (RId → Option Rg) → Spec} {r : List Contract} {args : List AV} {M : RId → Option Rg} (h : (g == f) = false) : findC (⟨g, sp⟩ :: r) f args M = findC r f args M := by
  have : g ≠ f := by simpa using h
  simp [findC, this]
theorem exit_eq {rs : List ResultVar} {K : AV → Prop} : exitVC P rs S K = resVC P S rs fun l => match l with
    | [a] => K a
    | l => l.all AV.noTup = true ∧ K (.tup (l.map fun a => (a.isAgg, a.cells))) := propext Iff.rfl
theorem res_nil {K : List AV → Prop} : resVC P S [] K = K [] := propext Iff.rfl
theorem res_tmp {t : Nat} {r : List ResultVar} {K : List AV → Prop} : resVC P S (.tmp t :: r) K = rdT S.tmps t true fun a => resVC P S r fun l => K (a :: l) := propext Iff.rfl
theorem res_cell {t : Nat} {ty : TypeId} {r : List ResultVar} {K : List AV → Prop} : resVC P S (.cell t ty :: r) K = rdT S.tmps t true fun a => asPtr a fun p => loadVC P S true ty p fun v => resVC P S r fun l => K (v :: l) := propext Iff.rfl
end
end Go.Eng

namespace Go.Eng

/-- memory that is there stays -/
def Ext (S S' : St) : Prop := ∀ x g, S.look x = some g → S'.look x = some g
theorem Ext.refl (S : St) : Ext S S := fun _ _ h => h

/-- the boxes are what they were -/
def ExtB (S S' : St) : Prop := ∀ x t cs, S.look x = some (.box t cs) → S'.look x = some (.box t cs)
theorem Ext.toB {S S' : St} (h : Ext S S') : ExtB S S' := fun x t cs e => h x _ e
def ag (xs : List Operand) (T T' : List Sl) : Prop := ∀ t, Operand.tmp t ∈ xs → T'[t]? = T[t]?

theorem rdT_eq {T : List Sl} : ∀ {t : Nat} {γ : Bool} {K : AV → Prop}, rdT T t γ K = match T[t]? with
    | some (.v g a) => (γ = true → g = true) ∧ K a
    | _ => False := by
  induction T with
  | nil => intro t γ K; simp [rdT]
  | cons s r ih =>
    intro t γ K
    cases t with
    | zero => cases s <;> rfl
    | succ t => rw [rdT_next, ih]; simp
theorem rdT_ag {T T' : List Sl} {t : Nat} {γ : Bool} {K : AV → Prop} (h : T'[t]? = T[t]?) : rdT T' t γ K = rdT T t γ K := by
  rw [rdT_eq, rdT_eq, h]
theorem rd_ag {S S' : St} {x : Operand} {γ : Bool} {K : AV → Prop} (h : ag [x] S.tmps S'.tmps) : rd S' γ x K = rd S γ x K := by
  cases x with
  | tmp t => exact rdT_ag (h t (by simp))
  | _ => rfl
theorem rd_ex {S : St} {x : Operand} {γ : Bool} {K : AV → Prop} (h : rd S γ x K) : ∃ a, K a ∧ ∀ K2 : AV → Prop, K2 a → rd S γ x K2 := by
  cases x with
  | tmp t =>
    have h' : rdT S.tmps t γ K := h
    rw [rdT_eq] at h'
    split at h'
    · rename_i g a e
      exact ⟨a, h'.2, fun K2 h2 => by show rdT S.tmps t γ K2; rw [rdT_eq, e]; exact ⟨h'.1, h2⟩⟩
    · exact h'.elim
  | const v =>
    simp only [rd] at h ⊢
    split at h
    · rename_i a e; exact ⟨a, h, fun K2 h2 => h2⟩
    · exact h.elim
  | func f => exact ⟨_, h, fun K2 h2 => h2⟩
  | global _ => exact h.elim
theorem rd_ex2 {S S' : St} {x : Operand} {γ : Bool} {K : AV → Prop} (h : rd S γ x K) : ∃ a, K a ∧ ∀ S', ag [x] S.tmps S'.tmps → ∀ K2 : AV → Prop, K2 a → rd S' γ x K2 := by
  obtain ⟨a, h1, h2⟩ := rd_ex h
  exact ⟨a, h1, fun S' hs K2 hk => by rw [rd_ag hs]; exact h2 K2 hk⟩
theorem ag_sub {xs ys : List Operand} {T T' : List Sl} (h : ag ys T T') (hs : ∀ x ∈ xs, x ∈ ys) : ag xs T T' := fun t ht => h t (hs _ ht)

theorem asPtr_ex {a : AV} {K : AA → Prop} (h : asPtr a K) : ∃ p, a = .c (.ptr p) ∧ K p := asPtr_of h

theorem load_ex {P : Program} {S : St} {γ : Bool} {t : TypeId} {a : AA} {K : AV → Prop} (h : loadVC P S γ t a K) : ∃ v, K v ∧ ∀ S', Ext S S' → ∀ K2 : AV → Prop, K2 v → loadVC P S' γ t a K2 := by
  unfold loadVC at h
  split at h
  · rename_i ag n hsz
    split at h
    · rename_i t' cs hl
      exact ⟨_, h.2, fun S' hS K2 h2 => by unfold loadVC; rw [hsz, hS _ _ hl]; exact ⟨h.1, h2⟩⟩
    · rename_i own ty sz cnt cap len get hl
      exact ⟨_, h.2.2, fun S' hS K2 h2 => by unfold loadVC; rw [hsz, hS _ _ hl]; exact ⟨h.1, h.2.1, h2⟩⟩
    · exact h.elim
  · exact h.elim
theorem bin_ex {P : Program} {t : TypeId} {op : BinOp} {va vb : AV} {γ : Bool} {K : AV → Prop} (h : binVC P t op va vb γ K) : ∃ v, K v ∧ ∀ K2 : AV → Prop, K2 v → binVC P t op va vb γ K2 := by
  unfold binVC at h ⊢
  split at h
  · cases op <;> first | exact ⟨_, h.2, fun _ h2 => ⟨h.1, h2⟩⟩ | exact ⟨_, h, fun _ h2 => h2⟩
  · cases op <;> first | exact ⟨_, h.2, fun _ h2 => ⟨h.1, h2⟩⟩ | exact h.elim
  · cases op <;> first | exact ⟨_, h.2, fun _ h2 => ⟨h.1, h2⟩⟩ | exact ⟨_, h, fun _ h2 => h2⟩ | exact h.elim
  · cases op <;> first | (obtain ⟨r, h1, h2⟩ := eqA_ex h; exact ⟨_, h1, fun K2 hk => h2 _ hk⟩) | exact h.elim
  · exact ⟨_, h.2, fun _ h2 => ⟨h.1, h2⟩⟩

/-- operations that change nothing -/
def pureB (P : Program) : Op → Bool
  | .binOp _ _ _ y _ => !nilO y
  | .buildSlice _ n _ => n == 0
  | .move _ | .assign _ | .pick .. | .load .. | .nilCheck _ | .unOp .. | .fieldAddr .. | .field .. | .indexAddr .. | .index .. | .extract .. => true
  | .convert s d _ => match cvP P s d with
    | some (.int _) | some .str => true
    | _ => false
  | .call { callee := .builtin .len, .. } => true
  | .call { callee := .builtin .cap, .. } => true
  | .call { callee := .builtin .min, .. } => true
  | .call { callee := .builtin .max, .. } => true
  | _ => false
def readB : Op → Bool
  | .load .. | .indexAddr .. => true
  | _ => false

section
variable {P : Program} {C : List Contract}

theorem rds_ex {γ : Bool} {S : St} : ∀ {xs : List Operand} {K : List AV → Prop}, rds S γ xs K → ∃ l, K l ∧ ∀ S', ag xs S.tmps S'.tmps → ∀ K2 : List AV → Prop, K2 l → rds S' γ xs K2
  | [], K, h => ⟨[], h, fun _ _ _ h2 => h2⟩
  | x :: xs, K, h => by
    obtain ⟨a, h1, h2⟩ := rd_ex2 (S' := S) h
    obtain ⟨l, h3, h4⟩ := rds_ex h1
    exact ⟨a :: l, h3, fun S' hs K2 hk => h2 S' (ag_sub hs (by simp)) _ (h4 S' (ag_sub hs fun x hx => List.mem_cons_of_mem _ hx) _ hk)⟩

theorem bi_len_ex {S : St} {γ : Bool} {b : Builtin} (hb : b = .len ∨ b = .cap ∨ b = .min ∨ b = .max) {ts : List TypeId} {l : List AV} {K : Bool → AV → St → Prop} (h : biVC P S γ b ts l K) :
    ∃ v, K γ v S ∧ ∀ S' (K2 : Bool → AV → St → Prop), K2 γ v S' → biVC P S' γ b ts l K2 := by
  rcases hb with rfl | rfl | rfl | rfl
  · unfold biVC at h
    split at h <;> first | (exact ⟨_, h.2, fun S' K2 h2 => ⟨h.1, h2⟩⟩) | exact h.elim | skip
    all_goals contradiction
  · unfold biVC at h
    split at h <;> first | (exact ⟨_, h.2, fun S' K2 h2 => ⟨h.1, h2⟩⟩) | exact h.elim | skip
    all_goals contradiction
  · unfold biVC at h
    split at h <;> first | (exact ⟨_, h.2, fun S' K2 h2 => ⟨h.1, h2⟩⟩) | exact h.elim | skip
    all_goals contradiction
  · unfold biVC at h
    split at h <;> first | (exact ⟨_, h.2, fun S' K2 h2 => ⟨h.1, h2⟩⟩) | exact h.elim | skip
    all_goals contradiction

theorem exK_ex {a : AV} {j : Nat} {K : AV → Prop} (h : exK a j K) : ∃ v, K v ∧ ∀ K2 : AV → Prop, K2 v → exK a j K2 := by
  cases a with
  | tup l =>
    simp only [exK] at h ⊢
    split at h
    · exact ⟨_, h, fun _ h => h⟩
    · exact ⟨_, h, fun _ h => h⟩
    · exact h.elim
  | _ => exact h.elim

theorem pure_ex {op : Op} (hp : pureB P op = true) {S : St} {γ : Bool} {K : Bool → AV → St → Prop} (h : opVC P C op S γ K) :
    ∃ v, K γ v S ∧ ∀ S', ag op.operands.toList S.tmps S'.tmps → (readB op = true → Ext S S') → ∀ K2 : Bool → AV → St → Prop, K2 γ v S' → opVC P C op S' γ K2 := by
  cases op with
  | move x =>
    obtain ⟨v, h1, h2⟩ := rd_ex2 (S' := S) h
    exact ⟨v, h1, fun S' hs _ K2 hk => h2 S' (ag_sub hs (by simp [Op.operands])) _ hk⟩
  | assign x =>
    obtain ⟨v, h1, h2⟩ := rd_ex2 (S' := S) h
    exact ⟨v, h1, fun S' hs _ K2 hk => h2 S' (ag_sub hs (by simp [Op.operands])) _ hk⟩
  | pick c x y =>
    obtain ⟨v, h1, h2⟩ := rd_ex2 (S' := S) h
    obtain ⟨b, rfl, h1⟩ := asB_of h1
    obtain ⟨v, h3, h4⟩ := rd_ex2 (S' := S) h1
    obtain ⟨b', _, h3, k3⟩ := asBG_of h3
    obtain ⟨v, h5, h6⟩ := rd_ex2 (S' := S) h3
    obtain ⟨b'', _, h5, k5⟩ := asBG_of h5
    exact ⟨_, h5, fun S' hs _ K2 hk => h2 S' (ag_sub hs (by simp [Op.operands])) _ (h4 S' (ag_sub hs (by simp [Op.operands])) _ (k3 _ (h6 S' (ag_sub hs (by simp [Op.operands])) _ (k5 _ hk))))⟩
  | buildSlice t n ps =>
    obtain rfl : n = 0 := by simpa [pureB] using hp
    rw [op_buildSlice'] at h
    cases he : elP P t with
    | none => rw [he] at h; exact h.elim
    | some e =>
      cases hz : zeroP P e.1 with
      | none => rw [he] at h; simp only [optK, hz] at h
      | some z =>
        rw [he] at h
        simp only [optK, hz, if_pos] at h
        refine ⟨_, h.2.2, fun S' _ _ K2 hk => ?_⟩
        rw [op_buildSlice', he]
        simp only [optK, hz, if_pos]
        exact ⟨h.1, h.2.1, hk⟩
  | load t x =>
    obtain ⟨v, h1, h2⟩ := rd_ex2 (S' := S) h
    obtain ⟨p, rfl, h3⟩ := asPtr_of h1
    obtain ⟨v, h4, h5⟩ := load_ex h3
    exact ⟨v, h4, fun S' hs he K2 hk => h2 S' (ag_sub hs (by simp [Op.operands])) _ (show loadVC P S' γ t p fun v => K2 γ v S' from h5 S' (he rfl) _ hk)⟩
  | nilCheck x =>
    obtain ⟨v, h1, h2⟩ := rd_ex2 (S' := S) h
    obtain ⟨p, rfl, h3⟩ := asPtr_of h1
    exact ⟨_, h3, fun S' hs he K2 hk => h2 S' (ag_sub hs (by simp [Op.operands])) _ hk⟩
  | binOp op t x y ty =>
    have hno : ¬ nilO y = true := by simpa [pureB] using hp
    have hS : ∀ (S' : St) (K2 : Bool → AV → St → Prop), opVC P C (.binOp op t x y ty) S' γ K2 = rd S' γ x fun a => rd S' γ y fun b => binVC P t op a b γ fun v => K2 γ v S' := fun S' K2 => by simp only [opVC, if_neg hno]
    rw [hS] at h
    obtain ⟨v, h1, h2⟩ := rd_ex2 (S' := S) h
    obtain ⟨u, h3, h4⟩ := rd_ex2 (S' := S) h1
    obtain ⟨w, h5, h6⟩ := bin_ex h3
    exact ⟨w, h5, fun S' hs he K2 hk => by rw [hS]; exact h2 S' (ag_sub hs (by simp [Op.operands])) _ (h4 S' (ag_sub hs (by simp [Op.operands])) _ (h6 _ hk))⟩
  | unOp op t x =>
    obtain ⟨v, h1, h2⟩ := rd_ex2 (S' := S) h
    unfold unVC at h1
    split at h1
    · exact ⟨_, h1, fun S' hs he K2 hk => h2 S' (ag_sub hs (by simp [Op.operands])) _ hk⟩
    · exact ⟨_, h1, fun S' hs he K2 hk => h2 S' (ag_sub hs (by simp [Op.operands])) _ hk⟩
    · exact h1.elim
  | convert s d x =>
    obtain ⟨v, h1, h2⟩ := rd_ex2 (S' := S) h
    simp only [pureB] at hp
    split at hp
    · rename_i k hc
      simp only [hc] at h1
      obtain ⟨k', n, rfl, h1⟩ := cvVC_int h1
      exact ⟨_, h1, fun S' hs he K2 hk => h2 S' (ag_sub hs (by simp [Op.operands])) _ (by rw [hc]; exact hk)⟩
    · rename_i hc
      simp only [hc] at h1
      obtain ⟨n, rfl, h1⟩ := cvVC_str h1
      exact ⟨_, h1, fun S' hs he K2 hk => h2 S' (ag_sub hs (by simp [Op.operands])) _ (by rw [hc]; exact hk)⟩
    · cases hp
  | fieldAddr t x j =>
    obtain ⟨v, h1, h2⟩ := rd_ex2 (S' := S) h
    obtain ⟨p, rfl, h3⟩ := asPtr_of h1
    split at h3
    · rename_i q hq
      exact ⟨_, h3, fun S' hs he K2 hk => h2 S' (ag_sub hs (by simp [Op.operands])) _ (by show (match fldP P t j with | some (off, _, _) => _ | none => False); rw [hq]; exact hk)⟩
    · exact h3.elim
  | field t x j =>
    obtain ⟨v, h1, h2⟩ := rd_ex2 (S' := S) h
    split at h1
    · rename_i cs off ag n hq
      exact ⟨_, h1.2, fun S' hs he K2 hk => h2 S' (ag_sub hs (by simp [Op.operands])) _ (by rw [hq]; exact ⟨h1.1, hk⟩)⟩
    · exact h1.elim
  | indexAddr t x y =>
    obtain ⟨v, h1, h2⟩ := rd_ex2 (S' := S) h
    obtain ⟨p, n, c, rfl, h3⟩ := asSl_of h1
    obtain ⟨v, h4, h5⟩ := rd_ex2 (S' := S) h3
    obtain ⟨k, i, rfl, h6⟩ := asI_of h4
    split at h6
    · rename_i e sz b own ty sz' cnt cap len get he hl
      exact ⟨_, h6.2, fun S' hs hx K2 hk => h2 S' (ag_sub hs (by simp [Op.operands])) _ (h5 S' (ag_sub hs (by simp [Op.operands])) _ (by
        show (match elP P t, S'.look p.r with | some (_, sz, _), some (.arr _ _ sz' _ _ _ _) => _ | _, _ => False)
        rw [he, hx rfl _ _ hl]; exact ⟨h6.1, hk⟩))⟩
    · exact h6.elim
  | index t x y =>
    obtain ⟨v, h1, h2⟩ := rd_ex2 (S' := S) h
    obtain ⟨u, h3, h4⟩ := rd_ex2 (S' := S) h1
    obtain ⟨k, i, rfl, h6⟩ := asI_of h3
    split at h6
    · exact ⟨_, h6.2, fun S' hs hx K2 hk => h2 S' (ag_sub hs (by simp [Op.operands])) _ (h4 S' (ag_sub hs (by simp [Op.operands])) _ ⟨h6.1, hk⟩)⟩
    · exact h6.elim
  | extract x j =>
    rw [op_extract] at h
    obtain ⟨v, h1, h2⟩ := rd_ex2 (S' := S) h
    obtain ⟨u, h3, h4⟩ := exK_ex h1
    exact ⟨u, h3, fun S' hs he K2 hk => by rw [op_extract]; exact h2 S' (ag_sub hs (by simp [Op.operands])) _ (h4 _ hk)⟩
  | call c =>
    obtain ⟨callee, args, ats⟩ := c
    cases callee with
    | builtin b =>
      obtain ⟨l, h1, h2⟩ := rds_ex h
      have hb : b = .len ∨ b = .cap ∨ b = .min ∨ b = .max := by cases b <;> simp_all [pureB]
      obtain ⟨v, h3, h4⟩ := bi_len_ex hb h1
      exact ⟨v, h3, fun S' hs _ K2 hk => h2 S' (ag_sub hs (by simp [Op.operands, Call.operands])) _ (h4 S' _ hk)⟩
    | _ => cases hp
  | _ => cases hp
end
end Go.Eng

namespace Go.Eng

def effB : Op → Bool
  | .alloc _ | .box .. | .buildSlice .. | .store .. | .makeSlice .. => true
  | .call { callee := .value _, .. } => true
  | .call { callee := .builtin .append, .. } => true
  | .call { callee := .builtin .copy, .. } => true
  | .build .. | .slice _ _ _ _ none => true
  | _ => false
/-- it changes nothing of what is there; q: the functions that are known not to -/
def quietB (P : Program) (q : FuncId → Bool) (op : Op) : Bool :=
  pureB P op || match op with
  | .alloc _ | .box .. | .buildSlice .. | .makeSlice .. | .build .. | .slice _ _ _ _ none => true
  | .call { callee := .value (.func f), .. } => q f
  | _ => false
def Spec.Qt : Spec → Prop
  | .eff _ ι _ _ _ upd => ∀ p : ι, upd p = []
  | _ => True
def Quiet (c : Contract) : Prop := ∀ args M, (c.sp args M).Qt

section
variable {P : Program} {C : List Contract} {q : FuncId → Bool}

theorem look_t {S : St} {T : List Sl} : ({ S with tmps := T } : St).look = S.look := by funext x; cases x <;> rfl
theorem setRg_t {S : St} {T : List Sl} {x : RId} {g : Rg} : ({ S with tmps := T } : St).setRg x g = { S.setRg x g with tmps := T } := by cases x <;> rfl
theorem setAll_t {n : Nat} {T : List Sl} : ∀ {l : List (RId × Rg)} {S : St}, ({ S with tmps := T } : St).setAll n l = { S.setAll n l with tmps := T }
  | [], S => rfl
  | (x, g) :: r, S => by
    show (({ S with tmps := T } : St).setAll n r).setRg x (g.dn n) = _
    rw [setAll_t (l := r), setRg_t]
    rfl
theorem rd_mono {S : St} {x : Operand} {γ : Bool} {K K' : AV → Prop} (h : rd S γ x K) (k : ∀ a, K a → K' a) : rd S γ x K' := by
  obtain ⟨a, h1, h2⟩ := rd_ex h
  exact h2 _ (k a h1)
theorem rd_sw {S : St} {T : List Sl} {x : Operand} {γ : Bool} {K K' : AV → Prop} (hs : ag [x] S.tmps T) (h : rd { S with tmps := T } γ x K) (k : ∀ a, K a → K' a) : rd S γ x K' := by
  rw [rd_ag (S := S) hs] at h
  exact rd_mono h k
theorem rds_sw {S : St} {T : List Sl} {γ : Bool} : ∀ {xs : List Operand} {K K' : List AV → Prop}, ag xs S.tmps T → rds { S with tmps := T } γ xs K → (∀ a, K a → K' a) → rds S γ xs K'
  | [], K, K', _, h, k => k _ h
  | x :: xs, K, K', hs, h, k => rd_sw (ag_sub hs fun y hy => by rw [List.mem_singleton] at hy; subst hy; exact List.mem_cons_self) h fun a h => rds_sw (xs := xs) (ag_sub hs fun y hy => List.mem_cons_of_mem _ hy) h fun l => k _
theorem slice_sw {S : St} {T : List Sl} {γ : Bool} {n sz : Nat} : ∀ {xs : List (Nat × Operand)} {l : List (List AC)} {K K' : List (List AC) → Prop}, ag (xs.map (·.2)) S.tmps T → sliceVC { S with tmps := T } γ n sz l xs K → (∀ a, K a → K' a) → sliceVC S γ n sz l xs K'
  | [], l, K, K', _, h, k => k _ h
  | (j, x) :: xs, l, K, K', hs, h, k => rd_sw (ag_sub hs fun y hy => by rw [List.mem_singleton] at hy; subst hy; exact List.mem_cons_self) h fun a h => ⟨h.1, slice_sw (xs := xs) (ag_sub hs fun y hy => List.mem_cons_of_mem _ hy) h.2 k⟩
theorem ext_alloc {S : St} {g : Rg} : Ext S (S.alloc g) := by
  intro x G h
  rw [look_alloc]
  split
  · rename_i e; subst e; simp [St.look] at h
  · exact h
theorem ext_locs {S : St} {l : List Rg} : Ext S { S with loc := S.loc ++ l } := by
  intro x G h
  cases x with
  | loc n =>
    simp only [St.look] at h ⊢
    rw [List.getElem?_append_left (List.getElem?_eq_some_iff.1 h).1]; exact h
  | _ => exact h

theorem rgK_mono {o : Option Rg} {Kb Kb' : TypeId → List AC → Prop} {Ka Ka' : Bool → TypeId → Nat → Nat → (Nat → Nat) → (Nat → Nat) → (Nat → Nat → List AC) → Prop} {Kn Kn' : Prop} (h : rgK o Kb Ka Kn) (h1 : ∀ t cs, Kb t cs → Kb' t cs) (h2 : ∀ o t s n c l g, Ka o t s n c l g → Ka' o t s n c l g) (h3 : Kn → Kn') : rgK o Kb' Ka' Kn' := by
  cases o with
  | none => exact h3 h
  | some g => cases g with
    | box t cs => exact h1 _ _ h
    | arr o t s n c l g => exact h2 _ _ _ _ _ _ _ h
theorem optK_mono {α : Type} {o : Option α} {K K' : α → Prop} (h : optK o K) (k : ∀ a, K a → K' a) : optK o K' := by
  cases o with
  | none => exact h.elim
  | some a => exact k _ h

theorem bi_app_shape {S : St} {γ : Bool} {ts : List TypeId} {l : List AV} {K : Bool → AV → St → Prop} (h : biVC P S γ .append ts l K) :
    ∃ a n c b m c' t t', ts = [t, t'] ∧ l = [.c (.sl a n c), .c (.sl b m c')] := by
  unfold biVC at h
  split at h <;> first | contradiction | exact ⟨_, _, _, _, _, _, _, _, rfl, rfl⟩ | exact h.elim

theorem findC_mem {f : FuncId} {args : List AV} {M : RId → Option Rg} : ∀ {C : List Contract}, findC C f args M = .bad ∨ ∃ c ∈ C, c.f = f ∧ findC C f args M = c.sp args M
  | [] => .inl rfl
  | c :: cs => by
    simp only [findC]
    split
    · rename_i e; exact .inr ⟨c, by simp, e, rfl⟩
    · rcases findC_mem (f := f) (args := args) (M := M) (C := cs) with h | ⟨d, hd, h⟩
      · exact .inl h
      · exact .inr ⟨d, List.mem_cons_of_mem _ hd, h⟩

theorem bi_copy_shape {S : St} {γ : Bool} {ts : List TypeId} {l : List AV} {K : Bool → AV → St → Prop} (h : biVC P S γ .copy ts l K) :
    ∃ a n c b m c' t t', ts = [t, t'] ∧ l = [.c (.sl a n c), .c (.sl b m c')] := by
  unfold biVC at h
  split at h <;> first | contradiction | exact ⟨_, _, _, _, _, _, _, _, rfl, rfl⟩ | exact h.elim
theorem build_sw {S : St} {T : List Sl} {γ : Bool} {ps : List (Nat × Nat)} : ∀ {xs : List (Nat × Operand)} {l : List AC} {K K' : List AC → Prop}, ag (xs.map (·.2)) S.tmps T → buildVC { S with tmps := T } γ ps l xs K → (∀ a, K a → K' a) → buildVC S γ ps l xs K'
  | [], l, K, K', _, h, k => k _ h
  | (j, x) :: xs, l, K, K', hs, h, k => by
    simp only [buildVC] at h ⊢
    cases hp : ps[j]? with
    | none => rw [hp] at h; exact h.elim
    | some q =>
      rw [hp] at h
      exact rd_sw (ag_sub hs fun y hy => by rw [List.mem_singleton] at hy; subst hy; exact List.mem_cons_self) h fun a h => ⟨h.1, build_sw (xs := xs) (ag_sub hs fun y hy => List.mem_cons_of_mem _ hy) h.2 k⟩
theorem optI_sw {S : St} {T : List Sl} {x : Option Operand} {γ : Bool} {d : Int} {K K' : Int → Prop} (hs : ag x.toList S.tmps T) (h : optI { S with tmps := T } γ x d K) (k : ∀ a, K a → K' a) : optI S γ x d K' := by
  cases x with
  | none => exact k _ h
  | some o =>
    refine rd_sw hs h fun a h => ?_
    obtain ⟨_, i, rfl, h⟩ := asI_of h
    exact k _ h

theorem op_swap (hq : ∀ c ∈ C, q c.f = true → Quiet c) {op : Op} (hp : (pureB P op || effB op) = true) {S : St} {T : List Sl} {γ : Bool} {K : Bool → AV → St → Prop} (hs : ag op.operands.toList S.tmps T)
    (h : opVC P C op { S with tmps := T } γ K) {K' : Bool → AV → St → Prop} (hK : ∀ g u S', S'.tmps = S.tmps → (quietB P q op = true → Ext S S') → K g u { S' with tmps := T } → K' g u S') : opVC P C op S γ K' := by
  by_cases hpu : pureB P op = true
  · obtain ⟨v, h1, h2⟩ := pure_ex hpu h
    exact h2 S (fun t ht => (hs t ht).symm) (fun _ x g e => by rw [look_t] at e; exact e) _ (hK _ _ _ rfl (fun _ => Ext.refl _) h1)
  have he : effB op = true := by simpa [hpu] using hp
  cases op with
  | alloc t =>
    rw [op_alloc] at h ⊢
    exact optK_mono h fun z h => ⟨fun hγ => hK _ _ _ rfl (fun _ => ext_alloc) (h.1 hγ), fun hγ => hK _ _ _ rfl (fun _ => Ext.refl _) (h.2 hγ)⟩
  | box t x =>
    rw [op_box] at h ⊢
    exact rd_sw hs h fun a h => ⟨h.1, fun hγ => hK _ _ _ rfl (fun _ => ext_alloc) (h.2.1 hγ), fun hγ => hK _ _ _ rfl (fun _ => Ext.refl _) (h.2.2 hγ)⟩
  | buildSlice t n ps =>
    rw [op_buildSlice'] at h ⊢
    have hn0 : ¬ n = 0 := fun e => hpu (by simp [pureB, e])
    simp only [if_neg hn0] at h ⊢
    refine optK_mono h fun e h => optK_mono h fun z h => ⟨h.1, slice_sw (ag_sub hs ?_) h.2 fun l h => ⟨fun hγ => hK _ _ _ rfl (fun _ => ext_alloc) (h.1 hγ), fun hγ => hK _ _ _ rfl (fun _ => Ext.refl _) (h.2 hγ)⟩⟩
    intro y hy
    simpa [Op.operands] using hy
  | store t x y =>
    rw [op_store] at h ⊢
    refine rd_sw (ag_sub hs (by simp [Op.operands])) h fun a h => ?_
    obtain ⟨p, rfl, h⟩ := asPtr_of h
    refine rd_sw (ag_sub hs (by simp [Op.operands])) h fun v h => ⟨fun hγ => ?_, fun hγ => hK _ _ _ rfl (fun _ => Ext.refl _) (h.2 hγ)⟩
    have h := h.1 hγ
    rw [store_eq] at h ⊢
    rw [look_t] at h
    refine optK_mono h fun e h => ⟨h.1, rgK_mono h.2 (fun t cs h => ⟨h.1, ?_⟩) (fun o t s n c l g h => ⟨h.1, ?_⟩) id⟩
    · exact hK _ _ _ (by cases p.r <;> rfl) (fun hh => by simp [quietB, pureB] at hh) (by rw [← setRg_t]; exact h.2)
    · exact hK _ _ _ (by cases p.r <;> rfl) (fun hh => by simp [quietB, pureB] at hh) (by rw [← setRg_t]; exact h.2)
  | build t ps =>
    rw [op_build'] at h ⊢
    refine optK_mono h fun z h => optK_mono h fun l h => build_sw (ag_sub hs ?_) h fun cs h => hK _ _ _ rfl (fun _ => Ext.refl _) h
    intro y hy
    simpa [Op.operands] using hy
  | slice t x lo hi mx =>
    cases mx with
    | some _ => cases he
    | none =>
      have hx : ag [x] S.tmps T := ag_sub hs (by simp [Op.operands])
      have hlo : ag lo.toList S.tmps T := ag_sub hs (by intro y hy; simp [Op.operands] at hy ⊢; simp [hy])
      have hhi : ag hi.toList S.tmps T := ag_sub hs (by intro y hy; simp [Op.operands] at hy ⊢; simp [hy])
      rw [op_slice] at h ⊢
      refine rd_sw hx h fun a h => ?_
      cases a with
      | c x =>
        cases x with
        | sl p n c =>
          rw [sl2_sl] at h ⊢
          rw [look_t] at h
          exact optK_mono h fun e h => rgK_mono h
            (fun _ _ h => optI_sw hlo h fun _ h => optI_sw hhi h fun _ h => ⟨h.1, hK _ _ _ rfl (fun _ => Ext.refl _) h.2⟩)
            (fun _ _ _ _ _ _ _ h => ⟨h.1, optI_sw hlo h.2 fun _ h => optI_sw hhi h fun _ h => ⟨h.1, hK _ _ _ rfl (fun _ => Ext.refl _) h.2⟩⟩)
            (fun h => optI_sw hlo h fun _ h => optI_sw hhi h fun _ h => ⟨h.1, hK _ _ _ rfl (fun _ => Ext.refl _) h.2⟩)
        | str s =>
          rw [sl2_str] at h ⊢
          exact ⟨h.1, optI_sw hlo h.2 fun _ h => optI_sw hhi h fun _ h => ⟨h.1, hK _ _ _ rfl (fun _ => Ext.refl _) h.2⟩⟩
        | _ => exact h.elim
      | _ => exact h.elim
  | makeSlice t l c =>
    rw [op_makeSlice] at h ⊢
    refine optK_mono h fun e h => optK_mono h fun z h => rd_sw (ag_sub hs (by simp [Op.operands])) h fun a h => ?_
    obtain ⟨k, i, rfl, h⟩ := asI_of h
    refine rd_sw (ag_sub hs (by simp [Op.operands])) h fun v h => ?_
    obtain ⟨k', i', rfl, h⟩ := asI_of h
    exact ⟨fun hγ => ⟨(h.1 hγ).1, hK _ _ _ rfl (fun _ => ext_alloc) (h.1 hγ).2⟩, fun hγ => hK _ _ _ rfl (fun _ => Ext.refl _) (h.2 hγ)⟩
  | call c =>
    obtain ⟨callee, args, ats⟩ := c
    cases callee with
    | value f =>
      rw [op_call'] at h ⊢
      rw [rd_ag (S := S) (ag_sub hs (by simp [Op.operands, Call.operands]))] at h
      obtain ⟨a, h1, h2⟩ := rd_ex h
      refine h2 _ ?_
      have hfa : ∀ f', f = .func f' → a = .c (.clo f' []) := by
        rintro f' rfl
        exact (show AV.c (.clo f' []) = a from h2 (fun x => x = a) rfl).symm
      cases a with
      | c x =>
        cases x with
        | clo f0 caps =>
          refine rds_sw (ag_sub hs (by simp [Op.operands, Call.operands]; intro x hx; exact .inr hx)) h1 fun l h => ?_
          rw [look_t] at h
          have hqf : ∀ c ∈ C, c.f = f0 → quietB P q (.call ⟨.value f, args, ats⟩) = true → Quiet c := by
            intro c hc hcf hh
            refine hq c hc ?_
            cases f with
            | func f' =>
              have := hfa f' rfl
              simp only [AV.c.injEq, AC.clo.injEq] at this
              rw [hcf, this.1]
              simpa [quietB, pureB] using hh
            | _ => simp [quietB, pureB] at hh
          rcases findC_mem (f := f0) (args := l ++ caps.map fun a => .c (.ptr a)) (M := S.look) (C := C) with e | ⟨c, hc, hcf, e⟩
          · rw [e] at h; exact h.elim
          · rw [e] at h ⊢
            have hqc := fun hh => hqf c hc hcf hh (l ++ caps.map fun a => .c (.ptr a)) S.look
            cases hsp : c.sp (l ++ caps.map fun a => .c (.ptr a)) S.look with
            | pure pre val =>
              rw [hsp] at h
              exact ⟨h.1, hK _ _ _ rfl (fun _ => Ext.refl _) h.2⟩
            | eff pre ι cond val new upd =>
              rw [hsp] at h hqc
              refine ⟨fun hγ => ⟨(h.1 hγ).1, fun p hp => hK _ _ _ (setAll_tmps _ _ _) (fun hh => ?_) ?_⟩, fun hγ => hK _ _ _ rfl (fun _ => Ext.refl _) (h.2 hγ)⟩
              · have : upd p = [] := hqc hh p
                rw [this]
                exact ext_locs
              · rw [← setAll_t]; exact (h.1 hγ).2 p hp
            | bad => rw [hsp] at h; exact h.elim
        | _ => exact h1.elim
      | _ => exact h1.elim
    | builtin b =>
      have hb : b = .copy ∨ b = .append := by cases b <;> simp_all [effB]
      rcases hb with hb | hb
      · subst hb
        rw [op_bi'] at h ⊢
        refine rds_sw (ag_sub hs (by simp [Op.operands, Call.operands])) h fun l h => ?_
        obtain ⟨a, n, c, b, m, c', t, t', e1, rfl⟩ := bi_copy_shape h
        rw [e1, bi_copy] at h ⊢
        rw [look_t] at h
        refine ⟨fun hγ => ?_, fun hγ => hK _ _ _ rfl (fun _ => Ext.refl _) (h.2 hγ)⟩
        have hnq : quietB P q (.call ⟨.builtin .copy, args, ats⟩) = true → False := fun hh => by simp [quietB, pureB] at hh
        refine ⟨fun hm => ⟨((h.1 hγ).1 hm).1, hK _ _ _ rfl (fun hh => (hnq hh).elim) ((h.1 hγ).1 hm).2⟩, fun hm => rgK_mono ((h.1 hγ).2 hm) (fun _ _ h => h) (fun _ _ _ _ _ _ _ h => ⟨h.1, ?_⟩) id⟩
        have h := h.2
        rw [wr_eq] at h ⊢
        rw [look_t] at h
        refine rgK_mono h (fun _ _ h => h) (fun _ _ _ _ _ _ _ h => ⟨h.1, hK _ _ _ ?_ (fun hh => (hnq hh).elim) ?_⟩) id
        · cases a.r <;> rfl
        · rw [← setRg_t]; exact h.2
      subst hb
      rw [op_bi'] at h ⊢
      refine rds_sw (ag_sub hs (by simp [Op.operands, Call.operands])) h fun l h => ?_
      obtain ⟨a, n, c, b, m, c', t, t', e1, rfl⟩ := bi_app_shape h
      rw [e1, bi_append] at h ⊢
      rw [look_t] at h
      refine ⟨fun hγ => ?_, fun hγ => hK _ _ _ rfl (fun _ => Ext.refl _) (h.2 hγ)⟩
      obtain ⟨h1, h2, h3⟩ := h.1 hγ
      have hnq : quietB P q (.call ⟨.builtin .append, args, ats⟩) = true → False := fun hh => by simp [quietB, pureB] at hh
      refine ⟨h1, fun hm => ⟨(h2 hm).1, hK _ _ _ rfl (fun hh => (hnq hh).elim) (h2 hm).2⟩, fun hm => rgK_mono (h3 hm) (fun _ _ h => h) (fun o t0 s n0 c0 l g h => ⟨h.1, ?_⟩) id⟩
      have h := h.2
      rw [app_eq] at h ⊢
      rw [look_t] at h
      refine optK_mono h fun e h => ⟨h.1, h.2.1, fun hc => rgK_mono (h.2.2.1 hc) (fun _ _ h => h) (fun _ _ _ _ _ _ _ h => ⟨h.1, hK _ _ _ ?_ (fun hh => (hnq hh).elim) ?_⟩) id, fun hc => ⟨(h.2.2.2 hc).1, fun cc h5 h6 => hK _ _ _ rfl (fun hh => (hnq hh).elim) ?_⟩⟩
      · cases a.r <;> rfl
      · rw [← setRg_t]; exact h.2
      · have := (h.2.2.2 hc).2 cc h5 h6
        exact this
    | invoke _ _ => cases he
  | _ => cases he

def boxyB : Op → Bool
  | .call { callee := .builtin .append, .. } => true
  | _ => false
theorem extB_set {S : St} {x : RId} {G : Rg} {o : Bool} {t s n : Nat} {c l : Nat → Nat} {g : Nat → Nat → List AC} (h : S.look x = some (.arr o t s n c l g)) : ExtB S (S.setRg x G) := by
  intro y t' cs e
  rw [look_setRg h]
  split
  · rename_i hy
    subst hy
    rw [h] at e
    cases e
  · exact e
theorem rgK_mono2 {o : Option Rg} {Kb Kb' : TypeId → List AC → Prop} {Ka Ka' : Bool → TypeId → Nat → Nat → (Nat → Nat) → (Nat → Nat) → (Nat → Nat → List AC) → Prop} {Kn Kn' : Prop} (h : rgK o Kb Ka Kn) (h1 : ∀ t cs, Kb t cs → Kb' t cs) (h2 : ∀ o' t s n c l g, o = some (.arr o' t s n c l g) → Ka o' t s n c l g → Ka' o' t s n c l g) (h3 : Kn → Kn') : rgK o Kb' Ka' Kn' := by
  cases o with
  | none => exact h3 h
  | some g => cases g with
    | box t cs => exact h1 _ _ h
    | arr o t s n c l g => exact h2 _ _ _ _ _ _ _ rfl h
/-- an append keeps the boxes -/
theorem app_swap {op : Op} (hp : boxyB op = true) {S : St} {T : List Sl} {γ : Bool} {K : Bool → AV → St → Prop} (hs : ag op.operands.toList S.tmps T)
    (h : opVC P C op { S with tmps := T } γ K) {K' : Bool → AV → St → Prop} (hK : ∀ g u S', S'.tmps = S.tmps → ExtB S S' → K g u { S' with tmps := T } → K' g u S') : opVC P C op S γ K' := by
  cases op with
  | call c =>
    obtain ⟨callee, args, ats⟩ := c
    cases callee with
    | builtin b =>
      have hb : b = .append := by cases b <;> simp_all [boxyB]
      subst hb
      rw [op_bi'] at h ⊢
      refine rds_sw (ag_sub hs (by simp [Op.operands, Call.operands])) h fun l h => ?_
      obtain ⟨a, n, c, b, m, c', t, t', e1, rfl⟩ := bi_app_shape h
      rw [e1, bi_append] at h ⊢
      rw [look_t] at h
      refine ⟨fun hγ => ?_, fun hγ => hK _ _ _ rfl (Ext.refl _).toB (h.2 hγ)⟩
      obtain ⟨h1, h2, h3⟩ := h.1 hγ
      refine ⟨h1, fun hm => ⟨(h2 hm).1, hK _ _ _ rfl (Ext.refl _).toB (h2 hm).2⟩, fun hm => rgK_mono (h3 hm) (fun _ _ h => h) (fun o t0 s n0 c0 l g h => ⟨h.1, ?_⟩) id⟩
      have h := h.2
      rw [app_eq] at h ⊢
      rw [look_t] at h
      refine optK_mono h fun e h => ⟨h.1, h.2.1, fun hc => rgK_mono2 (h.2.2.1 hc) (fun _ _ h => h) (fun _ _ _ _ _ _ _ he h => ⟨h.1, hK _ _ _ ?_ (extB_set he) ?_⟩) id, fun hc => ⟨(h.2.2.2 hc).1, fun cc h5 h6 => hK _ _ _ rfl ext_alloc.toB ?_⟩⟩
      · cases a.r <;> rfl
      · rw [← setRg_t]; exact h.2
      · exact (h.2.2.2 hc).2 cc h5 h6
    | _ => cases hp
  | _ => cases hp
end
end Go.Eng

namespace Go.Eng

def stepVC (P : Program) (C : List Contract) (ops : Array Oper) (i : Nat) (S : St) (K : St → Prop) : Prop :=
  match ops[i]? with
  | none => K S
  | some o => grdVC ops S o.guard fun γ => opVC P C o.op S γ fun g a S' => K (S'.put o.dst (.v g a))

def anyVC (P : Program) (C : List Contract) (ops : Array Oper) (K : St → Prop) : Nat → Array Bool → St → Prop
  | 0, listed, S => Region.ready .any ops listed = [] ∧ K S
  | fuel + 1, listed, S => (Region.ready .any ops listed = [] → K S) ∧ ∀ i ∈ Region.ready .any ops listed, stepVC P C ops i S (anyVC P C ops K fuel (listed.setIfInBounds i true))

section
variable {P : Program} {C : List Contract} {ops : Array Oper} {q : FuncId → Bool}

theorem setT_ne {s : Sl} : ∀ {l : List Sl} {t u : Nat}, t ≠ u → (setT l t s)[u]? = l[u]?
  | [], _, _, _ => rfl
  | _ :: r, 0, 0, h => absurd rfl h
  | _ :: r, 0, u + 1, _ => rfl
  | _ :: r, t + 1, 0, _ => rfl
  | _ :: r, t + 1, u + 1, h => by simpa [setT] using setT_ne (l := r) (t := t) (u := u) (by omega)
theorem setT_comm {s s' : Sl} : ∀ {l : List Sl} {t u : Nat}, t ≠ u → setT (setT l t s) u s' = setT (setT l u s') t s
  | [], _, _, _ => rfl
  | _ :: r, 0, 0, h => absurd rfl h
  | _ :: r, 0, u + 1, _ => rfl
  | _ :: r, t + 1, 0, _ => rfl
  | _ :: r, t + 1, u + 1, h => by simp only [setT]; rw [setT_comm (l := r) (by omega)]
theorem put_comm {S : St} {d e : Option Nat} {s s' : Sl} (h : ∀ t, d = some t → e ≠ some t) : (S.put d s).put e s' = (S.put e s').put d s := by
  cases d with
  | none => rfl
  | some t => cases e with
    | none => rfl
    | some u =>
      have : t ≠ u := fun hh => h t rfl (by rw [hh])
      simp only [St.put]
      rw [setT_comm this]
theorem put_get {S : St} {d : Option Nat} {s : Sl} {t : Nat} (h : d ≠ some t) : (S.put d s).tmps[t]? = S.tmps[t]? := by
  cases d with
  | none => rfl
  | some u => exact setT_ne (fun hh => h (by rw [hh]))
theorem put_look {S : St} {d : Option Nat} {s : Sl} : (S.put d s).look = S.look := by
  cases d with
  | none => rfl
  | some u => exact look_t
theorem put_t {S S' : St} {d : Option Nat} {s : Sl} (h : S'.tmps = S.tmps) : { S' with tmps := (S.put d s).tmps } = S'.put d s := by
  cases d with
  | none => simp only [St.put]; rw [← h]
  | some u => simp only [St.put]; rw [h]

theorem grd_ex {S : St} {g : Option (Nat × Bool)} {K : Bool → Prop} (h : grdVC ops S g K) : ∃ γ, K γ ∧ ∀ S' : St, (∀ j w, g = some (j, w) → ∀ o d, ops[j]? = some o → o.dst = some d → S'.tmps[d]? = S.tmps[d]?) → ∀ K2 : Bool → Prop, K2 γ → grdVC ops S' g K2 := by
  cases g with
  | none => exact ⟨true, h, fun _ _ _ h => h⟩
  | some p =>
    obtain ⟨j, want⟩ := p
    simp only [grdVC] at h
    split at h
    · rename_i o ho
      split at h
      · rename_i d hd
        split at h
        · rename_i g b hs
          refine ⟨_, h, fun S' hS K2 h2 => ?_⟩
          simp only [grdVC, ho, hd, hS j want rfl o d ho hd, hs]
          exact h2
        · exact h.elim
      · exact h.elim
    · exact h.elim

theorem mem_looks {o : Oper} {t : Nat} (h : Operand.tmp t ∈ o.op.operands.toList) : t ∈ o.looksAt ops := by
  unfold Oper.looksAt
  rw [List.mem_append]
  exact .inl (List.mem_filterMap.2 ⟨_, h, rfl⟩)
theorem mem_looks_g {o : Oper} {j : Nat} {w : Bool} (hg : o.guard = some (j, w)) {o' : Oper} {d : Nat} (h : ops[j]? = some o') (hd : o'.dst = some d) : d ∈ o.looksAt ops := by
  unfold Oper.looksAt
  rw [List.mem_append]
  refine .inr ?_
  simp [hg, h, hd]

/-- what a step that changes nothing yields, it yields wherever its operands are the same -/
theorem step_pure {i : Nat} {o : Oper} (hi : ops[i]? = some o) (hp : pureB P o.op = true) {S : St} {K : St → Prop} (h : stepVC P C ops i S K) :
    ∃ s, K (S.put o.dst s) ∧ ∀ S' : St, (∀ t ∈ o.looksAt ops, S'.tmps[t]? = S.tmps[t]?) → (readB o.op = true → Ext S S') → ∀ K2 : St → Prop, K2 (S'.put o.dst s) → stepVC P C ops i S' K2 := by
  simp only [stepVC, hi] at h
  obtain ⟨γ, h1, h2⟩ := grd_ex h
  obtain ⟨v, h3, h4⟩ := pure_ex hp h1
  refine ⟨.v γ v, h3, fun S' hS hE K2 hk => ?_⟩
  simp only [stepVC, hi]
  exact h2 S' (fun j w hg o' d ho hd => hS d (mem_looks_g hg ho hd)) _ (h4 S' (fun t ht => hS t (mem_looks ht)) hE _ hk)

theorem step_swap (hq : ∀ c ∈ C, q c.f = true → Quiet c) {j : Nat} {o : Oper} (hj : ops[j]? = some o) (hp : (pureB P o.op || effB o.op) = true) {S : St} {d : Option Nat} {s : Sl} {K : St → Prop}
    (hd : ∀ t ∈ o.looksAt ops, d ≠ some t) (hne : ∀ t, d = some t → o.dst ≠ some t) (h : stepVC P C ops j (S.put d s) K) :
    stepVC P C ops j S fun S1 => (∀ t, o.dst ≠ some t → S1.tmps[t]? = S.tmps[t]?) ∧ (quietB P q o.op = true → Ext S S1) ∧ K (S1.put d s) := by
  simp only [stepVC, hj] at h ⊢
  obtain ⟨γ, h1, h2⟩ := grd_ex h
  refine h2 S (fun k w hg o' t ho ht => (put_get (hd t (mem_looks_g hg ho ht))).symm) _ ?_
  have hS : (S.put d s) = { S with tmps := (S.put d s).tmps } := by cases d <;> rfl
  rw [hS] at h1
  refine op_swap hq hp (S := S) (T := (S.put d s).tmps) (fun t ht => put_get (hd t (mem_looks ht))) h1 fun g u S' k1 k2 k3 => ?_
  refine ⟨fun t ht => ?_, fun hh => ?_, ?_⟩
  · rw [put_get ht, k1]
  · intro x G e; rw [put_look]; exact k2 hh x G e
  · rw [put_t k1] at k3
    rw [← put_comm hne]
    exact k3

theorem step_swapB {j : Nat} {o : Oper} (hj : ops[j]? = some o) (hp : boxyB o.op = true) {S : St} {d : Option Nat} {s : Sl} {K : St → Prop}
    (hd : ∀ t ∈ o.looksAt ops, d ≠ some t) (hne : ∀ t, d = some t → o.dst ≠ some t) (h : stepVC P C ops j (S.put d s) K) :
    stepVC P C ops j S fun S1 => (∀ t, o.dst ≠ some t → S1.tmps[t]? = S.tmps[t]?) ∧ ExtB S S1 ∧ K (S1.put d s) := by
  simp only [stepVC, hj] at h ⊢
  obtain ⟨γ, h1, h2⟩ := grd_ex h
  refine h2 S (fun k w hg o' t ho ht => (put_get (hd t (mem_looks_g hg ho ht))).symm) _ ?_
  have hS : (S.put d s) = { S with tmps := (S.put d s).tmps } := by cases d <;> rfl
  rw [hS] at h1
  refine app_swap hp (S := S) (T := (S.put d s).tmps) (fun t ht => put_get (hd t (mem_looks ht))) h1 fun g u S' k1 k2 k3 => ?_
  refine ⟨fun t ht => ?_, fun x t cs e => ?_, ?_⟩
  · rw [put_get ht, k1]
  · rw [put_look]; exact k2 x t cs e
  · rw [put_t k1] at k3
    rw [← put_comm hne]
    exact k3
theorem rd_same {S : St} {x : Operand} {γ γ' : Bool} {K K' : AV → Prop} (h : rd S γ x K) (h' : rd S γ' x K') : ∃ a, K a ∧ K' a ∧ (∀ S', ag [x] S.tmps S'.tmps → ∀ K2 : AV → Prop, K2 a → rd S' γ x K2) ∧ ∀ S', ag [x] S.tmps S'.tmps → ∀ K2 : AV → Prop, K2 a → rd S' γ' x K2 := by
  obtain ⟨a, h1, h2⟩ := rd_ex2 (S' := S) h
  obtain ⟨b, k1, k2⟩ := rd_ex2 (S' := S) h'
  have hab : a = b := by
    have e1 : rd S γ x fun z => z = a := h2 S (fun _ _ => rfl) _ rfl
    have e2 : rd S γ' x fun z => z = b := k2 S (fun _ _ => rfl) _ rfl
    cases x with
    | tmp t =>
      have e1 : rdT S.tmps t γ fun z => z = a := e1
      have e2 : rdT S.tmps t γ' fun z => z = b := e2
      rw [rdT_eq] at e1 e2
      cases hs : S.tmps[t]? with
      | none => rw [hs] at e1; exact e1.elim
      | some s =>
        cases s with
        | v g z => rw [hs] at e1 e2; exact e1.2.symm.trans e2.2
        | un => rw [hs] at e1; exact e1.elim
    | const v =>
      simp only [rd] at e1 e2
      cases hv : cst v with
      | none => rw [hv] at e1; exact e1.elim
      | some z => rw [hv] at e1 e2; exact e1.symm.trans e2
    | func f => exact (show AV.c (.clo f []) = a from e1).symm.trans (show AV.c (.clo f []) = b from e2)
    | _ => exact e1.elim
  subst hab
  exact ⟨a, h1, k1, h2, k2⟩
/-- what a load out of a box yields, it yields wherever its operands and the boxes are the same -/
theorem step_pureB {i : Nat} {o : Oper} (hi : ops[i]? = some o) {S : St} {K : St → Prop} (hb : boxRd S [o]) (h : stepVC P C ops i S K) :
    ∃ s, K (S.put o.dst s) ∧ ∀ S' : St, (∀ t ∈ o.looksAt ops, S'.tmps[t]? = S.tmps[t]?) → ExtB S S' → boxRd S' [o] ∧ ∀ K2 : St → Prop, K2 (S'.put o.dst s) → stepVC P C ops i S' K2 := by
  simp only [stepVC, hi] at h
  obtain ⟨γ, h1, h2⟩ := grd_ex h
  simp only [boxRd] at hb
  split at hb
  · rename_i t x hop
    rw [hop] at h1
    obtain ⟨a, k1, k2, k3, k4⟩ := rd_same (show rd S γ x _ from h1) hb
    obtain ⟨p, hpa, kl⟩ := asPtr_of k1
    subst hpa
    have k2 : (match S.look p.r with
      | some (.box _ _) => True
      | _ => False) := k2
    split at k2
    · rename_i t' cs hl
      obtain ⟨v, k5, k6⟩ : ∃ v, K (S.put o.dst (.v γ v)) ∧ ∀ S', S'.look p.r = some (.box t' cs) → ∀ K2 : AV → Prop, K2 v → loadVC P S' γ t p K2 := by
        unfold loadVC at kl
        split at kl
        · rename_i ag' n hsz
          rw [hl] at kl
          exact ⟨_, kl.2, fun S' hS K2 h2 => by unfold loadVC; rw [hsz, hS]; exact ⟨kl.1, h2⟩⟩
        · exact kl.elim
      refine ⟨.v γ v, k5, fun S' hS hE => ?_⟩
      have hag : ag [x] S.tmps S'.tmps := fun u hu => hS u (mem_looks (by rw [hop]; simpa [Op.operands] using hu))
      have hl' := hE _ _ _ hl
      refine ⟨?_, fun K2 hk => ?_⟩
      · simp only [boxRd, hop]
        exact k4 S' hag _ (show (match S'.look p.r with
          | some (.box _ _) => True
          | _ => False) by rw [hl']; trivial)
      · simp only [stepVC, hi]
        refine h2 S' (fun j w hg o' d ho hd => hS d (mem_looks_g hg ho hd)) _ ?_
        rw [hop]
        refine k3 S' hag (fun a => asPtr a fun p => loadVC P S' γ t p fun v => K2 (S'.put o.dst (.v γ v))) ?_
        exact k6 S' hl' (fun v => K2 (S'.put o.dst (.v γ v))) hk
    · exact k2.elim
  · exact hb.elim
end
end Go.Eng

namespace Go.Eng

/-- nobody who could come before i, or at its side, minds it -/
def freeB (P : Program) (q : FuncId → Bool) (ops : Array Oper) (listed : Array Bool) (i : Nat) : Bool :=
  match ops[i]? with
  | none => false
  | some oi => pureB P oi.op && (List.range ops.size).all fun j => j == i || listed.getD j true || (match ops[j]? with
    | none => true
    | some oj => oj.after.any (fun e => Region.binds .any e && e.on == i) || (oi.apart ops oj && (pureB P oj.op || effB oj.op) && (!readB oi.op || quietB P q oj.op)))

/-- nobody who could come before i, or at its side, minds a load out of a box -/
def freeBoxB (P : Program) (q : FuncId → Bool) (ops : Array Oper) (listed : Array Bool) (i : Nat) : Bool :=
  match ops[i]? with
  | none => false
  | some oi => (List.range ops.size).all fun j => j == i || listed.getD j true || (match ops[j]? with
    | none => true
    | some oj => oj.after.any (fun e => Region.binds .any e && e.on == i) || (oi.apart ops oj && (pureB P oj.op || effB oj.op) && (quietB P q oj.op || boxyB oj.op)))
def heads : OT → List Nat
  | .nil => []
  | .go i _ => [i]
  | .gob i _ => [i]
  | .alt i _ o => i :: heads o
def kindB (P : Program) (ops : Array Oper) (i : Nat) : Bool :=
  match ops[i]? with
  | some o => pureB P o.op || effB o.op
  | none => false
/-- b: among alternatives -/
def chkB (P : Program) (q : FuncId → Bool) (ops : Array Oper) : OT → Bool → Nat → Array Bool → Bool
  | .nil, b, n, listed => !b && n == 0 && (Region.ready .any ops listed).isEmpty
  | .go i r, true, n, listed => kindB P ops i && n != 0 && chkB P q ops r false (n - 1) (listed.setIfInBounds i true)
  | .go i r, false, n, listed => (Region.ready .any ops listed).contains i && n != 0 && (freeB P q ops listed i || (Region.ready .any ops listed == [i] && kindB P ops i)) && chkB P q ops r false (n - 1) (listed.setIfInBounds i true)
  | .gob _ _, true, _, _ => false
  | .gob i r, false, n, listed => (Region.ready .any ops listed).contains i && n != 0 && freeBoxB P q ops listed i && chkB P q ops r false (n - 1) (listed.setIfInBounds i true)
  | .alt i r o, b, n, listed => (b || (!(Region.ready .any ops listed).isEmpty && (Region.ready .any ops listed).all fun j => (i :: heads o).contains j)) && kindB P ops i && n != 0 && chkB P q ops r false (n - 1) (listed.setIfInBounds i true) && chkB P q ops o true n listed

def drawB (P : Program) (q : FuncId → Bool) (ops : Array Oper) (ord : OT) : Bool := chkB P q ops ord false ops.size (Array.replicate ops.size false)

def okB (P : Program) (q : FuncId → Bool) (O : Nat → OT) : Code → Bool
  | .region id ops true => drawB P q ops (O id)
  | .seq a b => okB P q O a && okB P q O b
  | .cond _ a b => okB P q O a && okB P q O b
  | .block _ c => okB P q O c
  | .loop c => okB P q O c
  | _ => true

section
variable {P : Program} {C : List Contract} {ops : Array Oper} {q : FuncId → Bool} {K : St → Prop}

theorem step_mono (hq : ∀ c ∈ C, q c.f = true → Quiet c) {j : Nat} {oj : Oper} (hoj : ops[j]? = some oj) (hkind : (pureB P oj.op || effB oj.op) = true) {S : St} {K1 K2 : St → Prop} (hh : stepVC P C ops j S K1) (hk : ∀ S1, K1 S1 → K2 S1) : stepVC P C ops j S K2 := by
  simp only [stepVC, hoj] at hh ⊢
  obtain ⟨γ, g1, g2⟩ := grd_ex hh
  refine g2 S (fun _ _ _ _ _ _ _ => rfl) _ ?_
  have hS : S = { S with tmps := S.tmps } := rfl
  rw [hS] at g1
  refine op_swap (q := q) hq hkind (S := S) (T := S.tmps) (fun _ _ => rfl) g1 fun g u S' k1 k2 k3 => hk _ ?_
  have e : ({ S' with tmps := S.tmps } : St) = S' := by rw [← k1]
  rw [e] at k3
  exact k3

theorem any_first (hq : ∀ c ∈ C, q c.f = true → Quiet c) {i : Nat} {oi : Oper} (hi : ops[i]? = some oi) (hp : pureB P oi.op = true) :
    ∀ (fuel : Nat) (listed : Array Bool) (S : St),
      (∀ j oj, ops[j]? = some oj → j ≠ i → listed.getD j true = false → (∀ e ∈ oj.after, Region.binds .any e = true → e.on ≠ i) → oi.apart ops oj = true ∧ (pureB P oj.op || effB oj.op) = true ∧ (readB oi.op = true → quietB P q oj.op = true)) →
      i ∈ Region.ready .any ops listed → stepVC P C ops i S (anyVC P C ops K fuel (listed.setIfInBounds i true)) → anyVC P C ops K (fuel + 1) listed S := by
  intro fuel
  induction fuel with
  | zero =>
    intro listed S _ hr H
    refine ⟨fun h => (by rw [h] at hr; cases hr), fun j hj => ?_⟩
    by_cases hji : j = i
    · subst hji; exact H
    · obtain ⟨s, h1, _⟩ := step_pure hi hp H
      have := ready_mono hj hji
      rw [h1.1] at this
      cases this
  | succ fuel ih =>
    intro listed S hfree hr H
    refine ⟨fun h => (by rw [h] at hr; cases hr), fun j hj => ?_⟩
    by_cases hji : j = i
    · subst hji; exact H
    · obtain ⟨s, h1, hre⟩ := step_pure hi hp H
      have h2 := h1.2 j (ready_mono hj hji)
      obtain ⟨hjun, oj, hoj, hall⟩ := mem_ready.1 hj
      have hnot : ∀ e ∈ oj.after, Region.binds .any e = true → e.on ≠ i := fun e he hb heq => by
        have h1 := hall e he hb
        have h0 := (mem_ready.1 hr).1
        rw [heq] at h1
        rcases Nat.lt_or_ge i listed.size with h' | h'
        · simp [h'] at h0 h1; rw [h0] at h1; cases h1
        · simp [Array.getElem?_eq_none h'] at h1
      obtain ⟨hap, hkind, hqu⟩ := hfree j oj hoj hji hjun hnot
      obtain ⟨a1, a2, a3⟩ := Oper.apart_spec hap
      have h3 := step_swap hq hoj hkind (fun t ht hd => a1 t hd ht) (fun t ht => a2 t ht) h2
      have hfree' : ∀ k ok, ops[k]? = some ok → k ≠ i → (listed.setIfInBounds j true).getD k true = false →
          (∀ e ∈ ok.after, Region.binds .any e = true → e.on ≠ i) → oi.apart ops ok = true ∧ (pureB P ok.op || effB ok.op) = true ∧ (readB oi.op = true → quietB P q ok.op = true) := fun k ok hk hki hun hno => by
        refine hfree k ok hk hki ?_ hno
        by_cases hjk : j = k
        · subst hjk; exact hjun
        · rw [getD_set_ne true hjk] at hun; exact hun
      refine step_mono hq hoj hkind h3 fun S1 hS1 => ?_
      obtain ⟨k1, k2, k3⟩ := hS1
      refine ih (listed.setIfInBounds j true) S1 hfree' (ready_mono hr (Ne.symm hji)) (hre S1 (fun t ht => k1 t fun hd => a3 t hd ht) (fun hread => k2 (hqu hread)) _ ?_)
      rw [Array.setIfInBounds_comm _ _ hji]
      exact k3

theorem any_firstB (hq : ∀ c ∈ C, q c.f = true → Quiet c) {i : Nat} {oi : Oper} (hi : ops[i]? = some oi) :
    ∀ (fuel : Nat) (listed : Array Bool) (S : St), boxRd S [oi] →
      (∀ j oj, ops[j]? = some oj → j ≠ i → listed.getD j true = false → (∀ e ∈ oj.after, Region.binds .any e = true → e.on ≠ i) → oi.apart ops oj = true ∧ (pureB P oj.op || effB oj.op) = true ∧ (quietB P q oj.op || boxyB oj.op) = true) →
      i ∈ Region.ready .any ops listed → stepVC P C ops i S (anyVC P C ops K fuel (listed.setIfInBounds i true)) → anyVC P C ops K (fuel + 1) listed S := by
  intro fuel
  induction fuel with
  | zero =>
    intro listed S hbx _ hr H
    refine ⟨fun h => (by rw [h] at hr; cases hr), fun j hj => ?_⟩
    by_cases hji : j = i
    · subst hji; exact H
    · obtain ⟨s, h1, _⟩ := step_pureB hi hbx H
      have := ready_mono hj hji
      rw [h1.1] at this
      cases this
  | succ fuel ih =>
    intro listed S hbx hfree hr H
    refine ⟨fun h => (by rw [h] at hr; cases hr), fun j hj => ?_⟩
    by_cases hji : j = i
    · subst hji; exact H
    · obtain ⟨s, h1, hre⟩ := step_pureB hi hbx H
      have h2 := h1.2 j (ready_mono hj hji)
      obtain ⟨hjun, oj, hoj, hall⟩ := mem_ready.1 hj
      have hnot : ∀ e ∈ oj.after, Region.binds .any e = true → e.on ≠ i := fun e he hb heq => by
        have h1 := hall e he hb
        have h0 := (mem_ready.1 hr).1
        rw [heq] at h1
        rcases Nat.lt_or_ge i listed.size with h' | h'
        · simp [h'] at h0 h1; rw [h0] at h1; cases h1
        · simp [Array.getElem?_eq_none h'] at h1
      obtain ⟨hap, hkind, hqu⟩ := hfree j oj hoj hji hjun hnot
      obtain ⟨a1, a2, a3⟩ := Oper.apart_spec hap
      have hfree' : ∀ k ok, ops[k]? = some ok → k ≠ i → (listed.setIfInBounds j true).getD k true = false →
          (∀ e ∈ ok.after, Region.binds .any e = true → e.on ≠ i) → oi.apart ops ok = true ∧ (pureB P ok.op || effB ok.op) = true ∧ (quietB P q ok.op || boxyB ok.op) = true := fun k ok hk hki hun hno => by
        refine hfree k ok hk hki ?_ hno
        by_cases hjk : j = k
        · subst hjk; exact hjun
        · rw [getD_set_ne true hjk] at hun; exact hun
      have h3 : stepVC P C ops j S fun S1 => (∀ t, oj.dst ≠ some t → S1.tmps[t]? = S.tmps[t]?) ∧ ExtB S S1 ∧ anyVC P C ops K fuel ((listed.setIfInBounds i true).setIfInBounds j true) (S1.put oi.dst s) := by
        rcases Bool.or_eq_true _ _ |>.mp hqu with hqu | hqu
        · exact step_mono hq hoj hkind (step_swap hq hoj hkind (fun t ht hd => a1 t hd ht) (fun t ht => a2 t ht) h2) fun S1 h => ⟨h.1, (h.2.1 hqu).toB, h.2.2⟩
        · exact step_swapB hoj hqu (fun t ht hd => a1 t hd ht) (fun t ht => a2 t ht) h2
      refine step_mono hq hoj hkind h3 fun S1 hS1 => ?_
      obtain ⟨k1, k2, k3⟩ := hS1
      obtain ⟨hb1, hre1⟩ := hre S1 (fun t ht => k1 t fun hd => a3 t hd ht) k2
      refine ih (listed.setIfInBounds j true) S1 hb1 hfree' (ready_mono hr (Ne.symm hji)) (hre1 _ ?_)
      rw [Array.setIfInBounds_comm _ _ hji]
      exact k3
theorem boxRd_pure {o : Oper} {S : St} (h : boxRd S [o]) : pureB P o.op = true := by
  simp only [boxRd] at h
  split at h
  · rename_i t x hop
    rw [hop]; rfl
  · exact h.elim

theorem getO_eq : ∀ {l : List Oper} {i : Nat}, getO l i = match l[i]? with
    | some o => [o]
    | none => []
  | [], i => by simp [getO]
  | o :: r, 0 => rfl
  | o :: r, i + 1 => by simpa [getO] using getO_eq (l := r) (i := i)
theorem step_of_steps {i : Nat} {S : St} (h : stepsVC P C ops (getO ops.toList i) S K) : stepVC P C ops i S K := by
  rw [getO_eq] at h
  unfold stepVC
  rw [Array.getElem?_toList] at h
  cases hi : ops[i]? with
  | none => rw [hi] at h; exact h
  | some o => rw [hi] at h; exact h

theorem any_of_chk (hq : ∀ c ∈ C, q c.f = true → Quiet c) : ∀ (t : OT) (b : Bool) (n : Nat) (listed : Array Bool) (S : St), chkB P q ops t b n listed = true → drVC P C ops t S K →
    (b = false → anyVC P C ops K n listed S) ∧ (t ≠ .nil → ∀ i ∈ heads t, stepVC P C ops i S (anyVC P C ops K (n - 1) (listed.setIfInBounds i true)) ∧ n ≠ 0)
  | .nil, b, n, listed, S, h, H => by
    simp only [chkB, Bool.and_eq_true, beq_iff_eq] at h
    obtain ⟨⟨_, rfl⟩, h⟩ := h
    exact ⟨fun _ => ⟨by simpa using h, H⟩, fun h => absurd rfl h⟩
  | .go i r, true, n, listed, S, h, H => by
    simp only [chkB, Bool.and_eq_true] at h
    obtain ⟨⟨hk, hn⟩, hrest⟩ := h
    refine ⟨(fun h => Bool.noConfusion h), fun _ j hj => ?_⟩
    obtain rfl : j = i := by simpa [heads] using hj
    refine ⟨?_, by simpa using hn⟩
    have H' := step_of_steps H
    unfold kindB at hk
    cases hoi : ops[j]? with
    | none => rw [hoi] at hk; cases hk
    | some oi =>
      rw [hoi] at hk
      exact step_mono hq hoi hk H' fun S1 h1 => (any_of_chk hq r false _ _ S1 hrest h1).1 rfl
  | .go i r, false, n, listed, S, h, H => by
    simp only [chkB, Bool.and_eq_true] at h
    obtain ⟨⟨⟨hr, hn⟩, hf⟩, hrest⟩ := h
    have hn : n ≠ 0 := by simpa using hn
    obtain ⟨m, rfl⟩ : ∃ m, n = m + 1 := ⟨n - 1, by omega⟩
    have hr' : i ∈ Region.ready .any ops listed := by simpa using hr
    obtain ⟨_, oi, hoi, _⟩ := mem_ready.1 hr'
    have H' := step_of_steps H
    have hrec := fun S1 h1 => (any_of_chk hq r false m (listed.setIfInBounds i true) S1 hrest h1).1 rfl
    have hkd : (pureB P oi.op || effB oi.op) = true := by
      rcases Bool.or_eq_true _ _ |>.mp hf with hf | hf
      · simp only [freeB, hoi, Bool.and_eq_true] at hf
        simp [hf.1]
      · simp only [Bool.and_eq_true, kindB, hoi] at hf
        exact hf.2
    have Hs : stepVC P C ops i S (anyVC P C ops K m (listed.setIfInBounds i true)) := step_mono hq hoi hkd H' hrec
    have hh : ∀ j ∈ heads (.go i r), stepVC P C ops j S (anyVC P C ops K m (listed.setIfInBounds j true)) := by
      intro j hj
      obtain rfl : j = i := by simpa [heads] using hj
      exact Hs
    refine ⟨fun _ => ?_, fun _ j hj => ⟨hh j hj, hn⟩⟩
    by_cases hfree : freeB P q ops listed i = true
    · simp only [freeB, hoi, Bool.and_eq_true] at hfree
      obtain ⟨hp, hall⟩ := hfree
      refine any_first hq hoi hp m listed S (fun j oj hoj hji hun hno => ?_) hr' Hs
      have hlt : j < ops.size := (Array.getElem?_eq_some_iff.1 hoj).1
      have := List.all_eq_true.1 hall j (List.mem_range.2 hlt)
      simp only [hoj, hun, Bool.or_false, Bool.or_eq_true, beq_iff_eq, hji, false_or, Bool.and_eq_true, Bool.not_eq_true'] at this
      rcases this with h | h
      · obtain ⟨e, he, hb⟩ := Array.any_eq_true'.1 h
        simp only [Bool.and_eq_true, beq_iff_eq] at hb
        exact absurd hb.2 (hno e he hb.1)
      · refine ⟨h.1.1, by simpa using h.1.2, fun hread => ?_⟩
        rcases h.2 with h | h
        · rw [h] at hread; cases hread
        · exact h
    · have hfree : freeB P q ops listed i = false := by simpa using hfree
      simp only [hfree, Bool.false_or, Bool.and_eq_true] at hf
      have honly : Region.ready .any ops listed = [i] := by simpa using hf.1
      refine ⟨fun h => (by rw [h] at hr'; cases hr'), fun j hj => ?_⟩
      rw [honly] at hj
      obtain rfl : j = i := by simpa using hj
      exact Hs
  | .gob i r, true, n, listed, S, h, H => by
    simp [chkB] at h
  | .gob i r, false, n, listed, S, h, H => by
    simp only [chkB, Bool.and_eq_true] at h
    obtain ⟨⟨⟨hr, hn⟩, hf⟩, hrest⟩ := h
    have hn : n ≠ 0 := by simpa using hn
    obtain ⟨m, rfl⟩ : ∃ m, n = m + 1 := ⟨n - 1, by omega⟩
    have hr' : i ∈ Region.ready .any ops listed := by simpa using hr
    obtain ⟨_, oi, hoi, _⟩ := mem_ready.1 hr'
    obtain ⟨Hb, H⟩ := H
    have hg : getO ops.toList i = [oi] := by rw [getO_eq, Array.getElem?_toList, hoi]
    rw [hg] at Hb
    have H' := step_of_steps H
    have hrec := fun S1 h1 => (any_of_chk hq r false m (listed.setIfInBounds i true) S1 hrest h1).1 rfl
    have hp : pureB P oi.op = true := boxRd_pure Hb
    have Hs : stepVC P C ops i S (anyVC P C ops K m (listed.setIfInBounds i true)) := step_mono hq hoi (by simp [hp]) H' hrec
    refine ⟨fun _ => ?_, fun _ j hj => ⟨?_, hn⟩⟩
    · simp only [freeBoxB, hoi] at hf
      refine any_firstB hq hoi m listed S Hb (fun j oj hoj hji hun hno => ?_) hr' Hs
      have hlt : j < ops.size := (Array.getElem?_eq_some_iff.1 hoj).1
      have := List.all_eq_true.1 hf j (List.mem_range.2 hlt)
      simp only [hoj, hun, Bool.or_false, Bool.or_eq_true, beq_iff_eq, hji, false_or, Bool.and_eq_true] at this
      rcases this with h | h
      · obtain ⟨e, he, hb⟩ := Array.any_eq_true'.1 h
        simp only [Bool.and_eq_true, beq_iff_eq] at hb
        exact absurd hb.2 (hno e he hb.1)
      · exact ⟨h.1.1, by simpa using h.1.2, by simpa using h.2⟩
    · obtain rfl : j = i := by simpa [heads] using hj
      exact Hs
  | .alt i r o, b, n, listed, S, h, H => by
    simp only [chkB, Bool.and_eq_true] at h
    obtain ⟨⟨⟨⟨hall, hk⟩, hn⟩, hrest⟩, ho⟩ := h
    have hn : n ≠ 0 := by simpa using hn
    have H' := step_of_steps H.1
    have Hs : stepVC P C ops i S (anyVC P C ops K (n - 1) (listed.setIfInBounds i true)) := by
      unfold kindB at hk
      cases hoi : ops[i]? with
      | none => rw [hoi] at hk; cases hk
      | some oi =>
        rw [hoi] at hk
        exact step_mono hq hoi hk H' fun S1 h1 => (any_of_chk hq r false _ _ S1 hrest h1).1 rfl
    have Ho := any_of_chk hq o true n listed S ho H.2
    have hon : o ≠ .nil := by
      rintro rfl
      simp [chkB] at ho
    have hev : ∀ j ∈ i :: heads o, stepVC P C ops j S (anyVC P C ops K (n - 1) (listed.setIfInBounds j true)) := by
      intro j hj
      rcases List.mem_cons.1 hj with rfl | hj
      · exact Hs
      · exact (Ho.2 hon j hj).1
    refine ⟨fun hb => ?_, fun _ j hj => ⟨hev j hj, hn⟩⟩
    subst hb
    simp only [Bool.false_or, Bool.and_eq_true] at hall
    obtain ⟨m, rfl⟩ : ∃ m, n = m + 1 := ⟨n - 1, by omega⟩
    refine ⟨fun h0 => (by rw [h0] at hall; simp at hall), fun j hj => ?_⟩
    have := List.all_eq_true.1 hall.2 j hj
    exact hev j (by simpa using this)

theorem any_sound (hC : ∀ c ∈ C, SpecOK P c) {W : Nat → Prop} {w0 : World} {ρb : Env} {Q : Exit → Act → World → Prop} (hQ : ∀ a w, After W w0 ρb K a w → Q .normal a w) : ∀ (fuel : Nat) (listed : Array Bool) (S : St) (a : Act) (w : World) (ρ0 : Env), (∀ x, Same ρb ρ0 (.out x)) →
    Mt W w0 ρ0 S a w → anyVC P C ops K fuel listed S → wpAny P .any ops Q fuel listed a w
  | 0, listed, S, a, w, ρ0, ho, hm, h => ⟨h.1, hQ a w ⟨ρ0, S, ho, hm, h.2⟩⟩
  | fuel + 1, listed, S, a, w, ρ0, ho, hm, h => by
    refine ⟨fun h0 => hQ a w ⟨ρ0, S, ho, hm, h.1 h0⟩, fun i hi => ?_⟩
    have h1 := h.2 i hi
    unfold stepVC at h1
    unfold wpOp
    cases hoi : ops[i]? with
    | none =>
      rw [hoi] at h1
      exact any_sound hC hQ fuel _ S a w ρ0 ho hm h1
    | some o =>
      rw [hoi] at h1
      obtain ⟨γ, hop, hγ⟩ := grd_sound rfl hm h1
      simp only [hγ]
      cases γ with
      | true =>
        simp only [if_true]
        refine .inl (op_sound hC hm hop fun v w' hl => ?_)
        obtain ⟨g, av, S', ρ1, h1, h2, h3, h4⟩ := hl
        exact any_sound hC hQ fuel _ _ _ _ ρ1 (fun x => (ho x).trans (h2 x)) (Mt_put h3 o.dst (.v g av) v h4) h1
      | false =>
        simp only [Bool.false_eq_true, if_false]
        obtain ⟨av, h1⟩ := op_skip hop
        exact any_sound hC hQ fuel _ _ _ _ ρ0 ho (Mt_put hm o.dst (.v false av) undef fun _ _ => ⟨(fun h => by cases h), fun _ => rfl⟩) h1

theorem draw_ok (hm : P.follows .mixedOrders = true) (hC : ∀ c ∈ C, SpecOK P c) (hq : ∀ c ∈ C, q c.f = true → Quiet c) {ord : OT} (h : drawB P q ops ord = true) : DrawOK P C ops ord := by
  intro W w0 ρ0 S a w id Q K hst hmt hQ
  refine wp_region_any hm ?_
  exact any_sound hC hQ _ _ S a _ ρ0 (fun _ => Same.refl _ _) (Mt_drew hmt) ((any_of_chk hq ord false _ _ S h hst).1 rfl)

theorem okC_of (hm : P.follows .mixedOrders = true) (hC : ∀ c ∈ C, SpecOK P c) (hq : ∀ c ∈ C, q c.f = true → Quiet c) {O : Nat → OT} : ∀ (c : Code), okB P q O c = true → okC P C O c
  | .region id ops true, h => draw_ok hm hC hq h
  | .region id ops false, _ => trivial
  | .seq a b, h => by
    simp only [okB, Bool.and_eq_true] at h
    exact ⟨okC_of hm hC hq a h.1, okC_of hm hC hq b h.2⟩
  | .cond _ a b, h => by
    simp only [okB, Bool.and_eq_true] at h
    exact ⟨okC_of hm hC hq a h.1, okC_of hm hC hq b h.2⟩
  | .block _ c, h => okC_of hm hC hq c h
  | .loop c, h => okC_of hm hC hq c h
  | .skip, _ => trivial
  | .rangeFunc .., _ => trivial
  | .exit _, _ => trivial
  | .scope _, _ => trivial
  | .label _, _ => trivial
  | .goto _, _ => trivial
  | .ret, _ => trivial
  | .refuse _, _ => trivial
end
end Go.Eng

namespace Go.Eng

def okL (P : Program) : List Contract → Prop
  | [] => True
  | c :: r => SpecOK P c ∧ okL P r
def okQ (q : FuncId → Bool) : List Contract → Prop
  | [] => True
  | c :: r => (q c.f = true → Quiet c) ∧ okQ q r
theorem okL_mem {P : Program} : ∀ {C : List Contract}, okL P C → ∀ c ∈ C, SpecOK P c
  | [], _, c, h => by simp at h
  | d :: r, h, c, hc => by
    rcases List.mem_cons.1 hc with rfl | hc
    · exact h.1
    · exact okL_mem h.2 c hc
theorem okQ_mem {q : FuncId → Bool} : ∀ {C : List Contract}, okQ q C → ∀ c ∈ C, q c.f = true → Quiet c
  | [], _, c, h => by simp at h
  | d :: r, h, c, hc => by
    rcases List.mem_cons.1 hc with rfl | hc
    · exact h.1
    · exact okQ_mem h.2 c hc
theorem okQ_none : ∀ {C : List Contract}, okQ (fun _ => false) C
  | [] => trivial
  | _ :: _ => ⟨(fun h => Bool.noConfusion h), okQ_none⟩

theorem goIn {P : Program} {C : List Contract} {f : FuncId} {fn : Func} {code : Code} (hf : P.funcs[f]? = some fn) (hb : fn.body = some code) {nt : Nat} (hnt : fn.ntmps = nt) {rs : List ResultVar} (hrs : fn.results.toList = rs)
    (hC : okL P C) {O : Nat → OT} {q : FuncId → Bool} (hq : okQ q C) (hm : P.follows .mixedOrders = true) (hok : okB P q O code = true)
    {args : List AV} {M : RId → Option Rg} {ι : Type} {cond : ι → Prop} {val : ι → AV} {new : ι → List Rg} {upd : ι → List (RId × Rg)}
    (h : vc P C O code (endVC P rs M cond val new upd) (St.enter nt args M)) : CallOK P f args M ι cond val new upd :=
  enter (okL_mem hC) hf hb hnt hrs (okC_of hm (okL_mem hC) (okQ_mem hq) code hok) h

def otl : List Nat → OT → OT
  | [], t => t
  | i :: r, t => .go i (otl r t)
def ots : List (Nat × OT) → Nat → OT
  | [], _ => .nil
  | (k, t) :: r, i => bif k == i then t else ots r i
theorem otl_nil {t : OT} : otl [] t = t := Eq.trans rfl rfl
theorem otl_cons {i : Nat} {r : List Nat} {t : OT} : otl (i :: r) t = .go i (otl r t) := Eq.trans rfl rfl
theorem ots_nil {i : Nat} : ots [] i = .nil := Eq.trans rfl rfl
theorem ots_hit {i : Nat} {t : OT} {r : List (Nat × OT)} : ots ((i, t) :: r) i = t := by simp [ots]
theorem ots_next {i k : Nat} {t : OT} {r : List (Nat × OT)} (h : (k == i) = false) : ots ((k, t) :: r) i = ots r i := by simp [ots, h]

theorem getO_nil {i : Nat} : getO [] i = [] := Eq.trans rfl rfl
theorem getO_hit {o : Oper} {r : List Oper} : getO (o :: r) 0 = [o] := Eq.trans rfl rfl
theorem getO_next {o : Oper} {r : List Oper} {i : Nat} : getO (o :: r) (i + 1) = getO r i := Eq.trans rfl rfl

/-- a frame of n slots, a few of them known -/
def slots (n : Nat) : List (Nat × AV) → List Sl
  | [] => List.replicate n .un
  | (t, a) :: r => setT (slots n r) t (.v true a)
theorem slots_nil {n : Nat} : slots n [] = List.replicate n .un := rfl
theorem slots_cons {n t : Nat} {a : AV} {r : List (Nat × AV)} : slots n ((t, a) :: r) = setT (slots n r) t (.v true a) := rfl

theorem Le_of {τ : List Nat} {S S' : St} (h : To τ S S') : Le S S' := To_sound h
theorem To_iff {τ : List Nat} {S S' : St} : To τ S S' ↔ ((S'.base = S.base ∧ τ.Nodup ∧ toL τ.length τ S.loc τ S'.loc ∧ keysO S.ov S'.ov ∧ toO τ.length τ S S'.ov) ∧ toT τ.length τ S.tmps S'.tmps) :=
  ⟨fun h => ⟨⟨h.mem.base, h.mem.nodup, h.mem.loc, h.mem.keys, h.mem.ov⟩, h.tmps⟩, fun h => ⟨⟨h.1.1, h.1.2.1, h.1.2.2.1, h.1.2.2.2.1, h.1.2.2.2.2⟩, h.2⟩⟩
theorem ToM_iff {τ : List Nat} {S S' : St} : ToM τ S S' ↔ (S'.base = S.base ∧ τ.Nodup ∧ toL τ.length τ S.loc τ S'.loc ∧ keysO S.ov S'.ov ∧ toO τ.length τ S S'.ov) :=
  ⟨fun h => ⟨h.base, h.nodup, h.loc, h.keys, h.ov⟩, fun h => ⟨h.1, h.2.1, h.2.2.1, h.2.2.2.1, h.2.2.2.2⟩⟩
theorem Le_intro {S S' : St} (τ : List Nat) (h : (S'.base = S.base ∧ τ.Nodup ∧ toL τ.length τ S.loc τ S'.loc ∧ keysO S.ov S'.ov ∧ toO τ.length τ S S'.ov) ∧ toT τ.length τ S.tmps S'.tmps) : Le S S' := To_sound (To_iff.2 h)
end Go.Eng

namespace Go.Eng

theorem w64 {n : Int} (h0 : -9223372036854775808 ≤ n) (h1 : n ≤ 9223372036854775807) : IntKind.i64.wrap n = n := by
  rw [IntKind.wrap_i64]; omega

theorem tdiv_nat (a b : Nat) : (a : Int).tdiv (b : Int) = ((a / b : Nat) : Int) := rfl
theorem tmod_nat (a b : Nat) : (a : Int).tmod (b : Int) = ((a % b : Nat) : Int) := rfl

theorem bit_iff (r j : Nat) : r.testBit j = true ↔ r / 2 ^ j % 2 = 1 := by
  rw [Nat.testBit_eq_decide_div_mod_eq]; simp
theorem mod_up (r k : Nat) : r % 2 ^ (k + 1) = r % 2 ^ k + if r.testBit k then 2 ^ k else 0 := by
  rw [Nat.mod_pow_succ]
  have h2 : r / 2 ^ k % 2 = 0 ∨ r / 2 ^ k % 2 = 1 := by omega
  rcases h2 with h | h
  · have : ¬ r.testBit k = true := by rw [bit_iff]; omega
    simp [h, this]
  · have : r.testBit k = true := by rw [bit_iff]; exact h
    simp [h, this]

/-- andNot of small numbers, as a Nat -/
theorem andNot_nat (a b : Nat) (ha : a < 512) (hb : b < 512) : ∃ r : Nat, bits .andNot .i64 a b = r ∧ r < 512 ∧ ∀ j, r.testBit j = (a.testBit j && !b.testBit j) := by
  refine ⟨(BitVec.ofNat 64 a &&& ~~~ BitVec.ofNat 64 b).toNat, ?_, ?_, ?_⟩
  · have hlt := (BitVec.ofNat 64 a &&& ~~~ BitVec.ofNat 64 b).isLt
    have hle : (BitVec.ofNat 64 a &&& ~~~ BitVec.ofNat 64 b).toNat ≤ a := by
      rw [BitVec.toNat_and, BitVec.toNat_ofNat, Nat.mod_eq_of_lt (by omega)]
      exact Nat.and_le_left
    have hk : IntKind.i64.bits = 64 := rfl
    show IntKind.i64.wrap ((BitVec.ofInt IntKind.i64.bits a &&& ~~~ BitVec.ofInt IntKind.i64.bits b).toNat : Int) = _
    rw [BitVec.ofInt_natCast, BitVec.ofInt_natCast]
    exact w64 (by omega) (by show ((BitVec.ofNat 64 a &&& ~~~ BitVec.ofNat 64 b).toNat : Int) ≤ _; omega)
  · have hle : (BitVec.ofNat 64 a &&& ~~~ BitVec.ofNat 64 b).toNat ≤ a := by
      rw [BitVec.toNat_and, BitVec.toNat_ofNat, Nat.mod_eq_of_lt (by omega)]
      exact Nat.and_le_left
    omega
  · intro j
    rw [BitVec.toNat_and, BitVec.toNat_not, BitVec.toNat_ofNat, BitVec.toNat_ofNat, Nat.mod_eq_of_lt (by omega : a < 2 ^ 64), Nat.mod_eq_of_lt (by omega : b < 2 ^ 64), Nat.testBit_and]
    by_cases hj : j < 64
    · have : (2 ^ 64 - 1 - b).testBit j = !b.testBit j := by
        rw [show 2 ^ 64 - 1 - b = 2 ^ 64 - (b + 1) by omega, Nat.testBit_two_pow_sub_succ (by omega)]
        simp [hj]
      rw [this]
    · have : a.testBit j = false := Nat.testBit_lt_two_pow (Nat.lt_of_lt_of_le (by omega : a < 2 ^ 64) (Nat.pow_le_pow_right (by omega) (by omega)))
      simp [this]

theorem and_mask {x : Int} (i : Nat) (hi : i ≤ 62) (h0 : 0 ≤ x) (h1 : x ≤ 9223372036854775807) : bits .and .i64 x (2 ^ i - 1) = x % 2 ^ i :=
  bits_mask .i64 63 (by decide) (fun n h0 h1 => w64 (by omega) (by have : ((2 : Int) ^ 63) = 9223372036854775808 := by decide
                                                                   omega)) i (by omega) x h0 (by have : ((2 : Int) ^ 63) = 9223372036854775808 := by decide
                                                                                                 omega)
theorem and_7 {x : Int} (h0 : 0 ≤ x) (h1 : x ≤ 9223372036854775807) : bits .and .i64 x 7 = x % 8 := and_mask 3 (by omega) h0 h1
theorem and_1 {x : Int} (h0 : 0 ≤ x) (h1 : x ≤ 9223372036854775807) : bits .and .i64 x 1 = x % 2 := and_mask 1 (by omega) h0 h1
theorem fdiv_pow (x : Int) (k : Nat) : x.fdiv (2 ^ k) = x / 2 ^ k := Int.fdiv_eq_ediv_of_nonneg _ (Int.pow_nonneg (by omega))

/-- how a body ends that hands back more than a plain value -/
def retP {ι : Type} (M : RId → Option Rg) (cond : ι → Prop) (val : ι → AV) (new : ι → List Rg) (upd : ι → List (RId × Rg)) (S : St) (p : ι) (gs : List (Nat × Nat)) (τ : List Nat) (av : AV) : Prop :=
  cond p ∧ (M = S.base ∧ τ.Nodup ∧ toL τ.length τ (S.loc ++ ghosts gs) τ (new p) ∧ keysO S.ov (upd p) ∧ toO τ.length τ (S.gh gs) (upd p)) ∧ (av.eqv ((val p).ren τ) ∧ (val p).cl τ.length) ∧ okU M (upd p)
theorem end_ret {P : Program} {rs : List ResultVar} {M : RId → Option Rg} {ι : Type} {cond : ι → Prop} {val : ι → AV} {new : ι → List Rg} {upd : ι → List (RId × Rg)} {S : St}
    (h : exitVC P rs S fun av => ∃ (p : ι) (gs : List (Nat × Nat)) (τ : List Nat), retP M cond val new upd S p gs τ av) :
    endVC P rs M cond val new upd .ret S := by
  refine ⟨trivial, ?_⟩
  have : (fun av => ∃ (p : ι) (gs : List (Nat × Nat)) (τ : List Nat), retP M cond val new upd S p gs τ av) =
      fun av => ∃ (p : ι) (gs : List (Nat × Nat)) (τ : List Nat), cond p ∧ ToM τ (S.gh gs) ⟨[], M, upd p, new p⟩ ∧ (av.eqv ((val p).ren τ) ∧ (val p).cl τ.length) ∧ okU M (upd p) := by
    funext av
    simp only [ToM_iff, retP]
    rfl
  rw [← this]
  exact h
theorem end_nrm {P : Program} {rs : List ResultVar} {M : RId → Option Rg} {ι : Type} {cond : ι → Prop} {val : ι → AV} {new : ι → List Rg} {upd : ι → List (RId × Rg)} {S : St}
    (h : endVC P rs M cond val new upd .ret S) : endVC P rs M cond val new upd .normal S := h
end Go.Eng

namespace Go.Eng
open Go.ChangeShapes Go.WideShapes Go.ChangeAt Go.RowKit

theorem law_calls {P : Program} {k : FuncId} {args : List AV} {M : RId → Option Rg} (h : CallOK P k args M Unit (fun _ => True) (fun _ => B true) (fun _ => []) (fun _ => [])) (hnil : M .nil = none) {w : World} {ρ0 : Env} {vs : List Value}
    (hin : ∀ ρ, Agree M ρ0 ρ → MemOk (fun _ => False) w.heap.size ρ M w ∧ Args ρ args vs) : Calls P k vs.toArray w fun e w' => e = .returned (.bool true) ∧ Below w.heap.size w w' := by
  refine (h (fun _ => False) ρ0 w vs hnil hin).mono ?_
  rintro e w' ⟨p, ρ', v, _, rfl, hfr, _, _, _, _, hM⟩
  refine ⟨?_, hfr.os, hfr.tape, hfr.output, hfr.size, fun k hk => hfr.block k hk id⟩
  have := (hM ρ' (Agree.refl _ _)).2
  exact congrArg Ending.returned this

theorem mem_none {W : Nat → Prop} {n : Nat} {ρ : Env} {w : World} : MemOk W n ρ (fun _ => none) w :=
  ⟨(fun _ _ h => by cases h), (fun _ _ _ _ _ _ h => by cases h), (fun _ _ _ h => by cases h), (fun _ _ _ h => by cases h)⟩

def env0 : Env := ⟨fun _ _ => 0, fun _ _ => 0, fun _ => 0⟩

theorem post_of_below {H : Type} {enc : TypeId × Value → H} {P : Program} {f : Func} {s : ChangeSpec} {apart fresh handsOn again : Bool} {W W' : World} {args : Array Value} {v : Value} {ds gs : List (DataW H)} {before pa pv : List MemPlace}
    (hW : DataW.Whole enc P f.params.toList s.vars apart W args.toList ds gs before)
    (hres : ∀ (b : Nat) (sp : Nat → Bool) (hd : Bool), DataW.TrodAll enc P W' b sp hd f.resultTypes.toList (v.resultList f.resultTypes.size) (s.fn H (ds ++ gs)).results [])
    (hargs : ∀ sp : Nat → Bool, (∀ p ∈ before, sp p.block = true) → DataW.TrodAll enc P W' 0 sp true f.params.toList args.toList (s.fn H (ds ++ gs)).args pa)
    (hvars : ∀ sp : Nat → Bool, (∀ p ∈ before, sp p.block = true) → DataW.TrodVars enc P W' sp s.vars (s.fn H (ds ++ gs)).vars pv)
    (hps : before = pa ++ pv) (hb : Below W.heap.size W W')
    (hok : ∀ (j : Nat) (t : TypeId) (r : Value), f.resultTypes[j]? = some t → (v.resultList f.resultTypes.size)[j]? = some r → Value.okWide P W' .any 0 t r) :
    s.post enc P f apart fresh handsOn again W args v W' := by
  have hold : ∀ p ∈ before, (fun b => decide (b < W.heap.size)) p.block = true := fun p hp => by simpa using hW.lt p hp
  have hlt : ∀ p ∈ before, p.block < W.heap.size := fun p hp => hW.lt p hp
  refine ⟨ds, gs, before, [], pa, pv, hW, hres _ _ _, hargs _ hold, hvars _ hold, World.keptBut_mono (fun p hp => ⟨hp, ?_⟩) (hb.frame (· ∈ before)), fun _ => ?_⟩
  · rw [hps, List.mem_append] at hp
    exact Or.inr hp
  · obtain ⟨_, _, _, _, _, hz, hn⟩ := hW
    refine ⟨hok, _, _, ([] ++ pa) ++ pv, ⟨[] ++ pa, pv, trodAll_append (hargs _ (fun _ _ => rfl)) (hres _ _ _), hvars _ (fun _ _ => rfl), rfl, ?_, ?_⟩, ?_⟩
    · intro b off hp
      have hp' : MemPlace.cell b off ∈ before := by rw [hps]; simpa using hp
      rw [hb.frozen (p := ⟨b, off, none⟩) (hlt _ hp')]
      exact hz b off hp'
    · intro ha
      have := hn ha
      rw [hps] at this
      simpa using this
    · intro p hp _
      rw [hps]
      simpa using hp
end Go.Eng

