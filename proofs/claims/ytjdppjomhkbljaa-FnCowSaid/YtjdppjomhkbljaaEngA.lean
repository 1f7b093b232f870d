/- THE ENGINE, EngA. -/
import Derived.WalkKit
import Derived.Laws.Bits
import Derived.WideShapes
import Derived.Laws.Cover3
import Derived.Laws.StructEq
set_option linter.unusedVariables false
set_option linter.unusedSimpArgs false
set_option linter.unusedSectionVars false
namespace Go.Eng

/-- names of regions: one of the function's own, or one that came in -/
inductive RId where
  | loc (n : Nat)
  | out (x : RId)
  | nil
  deriving DecidableEq

/-- an abstract address: region, member, element, cell -/
structure AA where
  r : RId
  i : Nat
  k : Nat
  f : Nat

inductive RV where
  | nilPtr | nilFunc | nilIface | nilMap
def RV.val : RV → Value
  | .nilPtr => .pointer none
  | .nilFunc => .nilFunc
  | .nilIface => .nilIface
  | .nilMap => .map none

/-- an abstract cell -/
inductive AC where
  | int (k : IntKind) (n : Int)
  | bool (b : Bool)
  | str (s : ByteArray)
  | ptr (a : AA)
  | sl (a : AA) (len cap : Nat)
  | clo (f : FuncId) (caps : List AA)
  | raw (v : RV)

/-- an abstract value -/
inductive AV where
  | c (x : AC)
  | agg (xs : List AC)
  | tup (xs : List (Bool × List AC))

abbrev I (n : Int) : AV := .c (.int .i64 n)
abbrev B (b : Bool) : AV := .c (.bool b)

inductive Rg where
  | box (ty : TypeId) (cs : List AC)
  | arr (own : Bool) (ty sz cnt : Nat) (cap len : Nat → Nat) (get : Nat → Nat → List AC)

def Rg.own : Rg → Bool
  | .box _ _ => true
  | .arr o _ _ _ _ _ _ => o
def Rg.has : Rg → Nat → Prop
  | .box _ _, i => i = 0
  | .arr _ _ _ cnt cap _ _, i => i < cnt ∧ 0 < cap i

structure Env where
  blk : RId → Nat → Nat
  base : RId → Nat → Nat
  sz : RId → Nat

def AA.conc (ρ : Env) (a : AA) : Addr := ⟨ρ.blk a.r a.i, ρ.base a.r a.i + (a.k * ρ.sz a.r + a.f), none⟩

def AC.Is (ρ : Env) : AC → Value → Prop
  | .int k n, v => v = .int k n
  | .bool b, v => v = .bool b
  | .str s, v => v = .string s
  | .ptr a, v => v = .pointer (some (a.conc ρ))
  | .sl a len cap, v => ∃ o, v = .slice o len cap ∧ len ≤ cap ∧ (0 < cap → o = some (a.conc ρ))
  | .clo f caps, v => v = .func (.func f) #[] (caps.map fun a => Value.pointer (some (a.conc ρ))).toArray
  | .raw r, v => v = r.val

/-- cells, one by one -/
def Cells (ρ : Env) : List AC → List Value → Prop
  | [], [] => True
  | c :: cs, v :: vs => c.Is ρ v ∧ Cells ρ cs vs
  | _, _ => False

def AV.Is (ρ : Env) : AV → Value → Prop
  | .c x, v => x.Is ρ v
  | .agg xs, v => ∃ vs, v = .agg vs.toArray ∧ Cells ρ xs vs
  | .tup xs, v => ∃ vs : List Value, v = .tuple vs.toArray ∧ vs.length = xs.length ∧
      ∀ (j : Nat) (b : Bool) (cs : List AC) (u : Value), xs[j]? = some (b, cs) → vs[j]? = some u →
        (if b then ∃ us, u = .agg us.toArray ∧ Cells ρ cs us else ∃ c, cs = [c] ∧ c.Is ρ u)

def AV.cells : AV → List AC
  | .c x => [x]
  | .agg xs => xs
  | .tup _ => []

/-- a slot of the frame: nothing known, or a value under a guard (else undef) -/
inductive Sl where
  | un
  | v (g : Bool) (a : AV)

/-- tmps: the frame; base: the regions that came in; ov: those of them that have been written since; loc: the function's own -/
structure St where
  tmps : List Sl
  base : RId → Option Rg
  ov : List (RId × Rg)
  loc : List Rg

/-- a name seen from one call deeper -/
def AA.up (a : AA) : AA := { a with r := .out a.r }
def AC.up : AC → AC
  | .ptr a => .ptr a.up
  | .sl a l c => .sl a.up l c
  | .clo f caps => .clo f (caps.map AA.up)
  | x => x
def AV.up : AV → AV
  | .c x => .c x.up
  | .agg xs => .agg (xs.map AC.up)
  | .tup xs => .tup (xs.map fun (b, cs) => (b, cs.map AC.up))
def Rg.up : Rg → Rg
  | .box t cs => .box t (cs.map AC.up)
  | .arr o t s n c l g => .arr o t s n c l fun i k => (g i k).map AC.up

def findO : List (RId × Rg) → RId → Option Rg
  | [], _ => none
  | (y, g) :: r, x => if y = x then some g else findO r x
def St.look (S : St) : RId → Option Rg
  | .nil => none
  | .loc n => S.loc[n]?
  | .out x => match findO S.ov x with
    | some g => some g
    | none => (S.base x).map Rg.up

structure Same (ρ ρ' : Env) (x : RId) : Prop where
  blk : ∀ i, ρ.blk x i = ρ'.blk x i
  base : ∀ i, ρ.base x i = ρ'.base x i
  sz : ρ.sz x = ρ'.sz x

def Agree (M : RId → Option Rg) (ρ ρ' : Env) : Prop := ∀ x g, M x = some g → Same ρ ρ' x

def RegOk (ρ : Env) (x : RId) (w : World) : Rg → Prop
  | .box ty cs => ρ.base x 0 = 0 ∧ ∃ vs : List Value, w.heap[ρ.blk x 0]? = some (.cells vs.toArray ty (0, 0)) ∧ Cells ρ cs vs
  | .arr own ty sz cnt cap len get => ρ.sz x = sz ∧ ∀ i, i < cnt → len i ≤ cap i ∧
      (∀ k, k < len i → (get i k).length = sz ∧ ∀ f c, (get i k)[f]? = some c →
        ∃ v, w.cell? ⟨ρ.blk x i, ρ.base x i + (k * sz + f), none⟩ = some v ∧ c.Is ρ v) ∧
      (own = true → 0 < cap i → ρ.base x i = 0 ∧ ∃ cur, w.heap[ρ.blk x i]? = some (.cells cur ty (0, 0)) ∧ cur.size = cap i * sz)

/-- what is known of memory -/
structure MemOk (W : Nat → Prop) (n0 : Nat) (ρ : Env) (M : RId → Option Rg) (w : World) : Prop where
  regs : ∀ x g, M x = some g → RegOk ρ x w g
  dis : ∀ x g i x' g' i', M x = some g → g.own = true → g.has i → M x' = some g' → g'.has i' → (x ≠ x' ∨ i ≠ i') → ρ.blk x i ≠ ρ.blk x' i'
  wr : ∀ x g i, M x = some g → g.own = true → g.has i → W (ρ.blk x i) ∨ n0 ≤ ρ.blk x i
  lt : ∀ x g i, M x = some g → g.has i → ρ.blk x i < w.heap.size

/-- the frame: what was there and is none of ours to write is as it was -/
structure Fr (W : Nat → Prop) (w0 w : World) : Prop where
  os : w.os = w0.os
  tape : w.tape = w0.tape
  output : w.output = w0.output
  size : w0.heap.size ≤ w.heap.size
  block : ∀ b, b < w0.heap.size → ¬ W b → w.heap[b]? = w0.heap[b]?

def SlOk (ρ : Env) : Sl → Value → Prop
  | .un, _ => True
  | .v g a, v => (g = true → a.Is ρ v) ∧ (g = false → v = undef)

structure Raw (W : Nat → Prop) (w0 : World) (ρ : Env) (S : St) (a : Act) (w : World) : Prop where
  mem : MemOk W w0.heap.size ρ S.look w
  fr : Fr W w0 w
  size : a.tmps.size = S.tmps.length
  tmps : ∀ t s, S.tmps[t]? = some s → SlOk ρ s (a.tmps.getD t undef)
  defers : a.defers = []

/-- the state matches: for every environment that agrees on the regions that are there -/
def Mt (W : Nat → Prop) (w0 : World) (ρ0 : Env) (S : St) (a : Act) (w : World) : Prop :=
  ∀ ρ, Agree S.look ρ0 ρ → Raw W w0 ρ S a w

theorem Same.refl (ρ : Env) (x : RId) : Same ρ ρ x := ⟨fun _ => rfl, fun _ => rfl, rfl⟩
theorem Agree.refl (M : RId → Option Rg) (ρ : Env) : Agree M ρ ρ := fun _ _ _ => Same.refl _ _
theorem Same.trans {ρ ρ' ρ'' : Env} {x : RId} (h : Same ρ ρ' x) (k : Same ρ' ρ'' x) : Same ρ ρ'' x :=
  ⟨fun i => (h.blk i).trans (k.blk i), fun i => (h.base i).trans (k.base i), h.sz.trans k.sz⟩

theorem Cells.length {ρ : Env} : ∀ {cs : List AC} {vs : List Value}, Cells ρ cs vs → vs.length = cs.length
  | [], [], _ => rfl
  | _ :: _, _ :: _, h => by simp [Cells.length h.2]
  | [], _ :: _, h => h.elim
  | _ :: _, [], h => h.elim

theorem Cells.get {ρ : Env} : ∀ {cs : List AC} {vs : List Value}, Cells ρ cs vs → ∀ (j : Nat) c, cs[j]? = some c → ∃ v, vs[j]? = some v ∧ c.Is ρ v
  | [], [], _, j, c, h => by simp at h
  | _ :: _, _ :: _, h, 0, c, e => by simp at e; subst e; exact ⟨_, rfl, h.1⟩
  | _ :: _, _ :: _, h, j + 1, c, e => by simpa using Cells.get h.2 j c (by simpa using e)
  | [], _ :: _, h, _, _, _ => h.elim
  | _ :: _, [], h, _, _, _ => h.elim

theorem Cells.of_get {ρ : Env} : ∀ {cs : List AC} {vs : List Value}, vs.length = cs.length → (∀ (j : Nat) c v, cs[j]? = some c → vs[j]? = some v → c.Is ρ v) → Cells ρ cs vs
  | [], [], _, _ => trivial
  | c :: cs, v :: vs, h, k => ⟨k 0 c v rfl rfl, Cells.of_get (by simpa using h) fun j c' v' e e' => k (j + 1) c' v' (by simpa using e) (by simpa using e')⟩
  | [], _ :: _, h, _ => by simp at h
  | _ :: _, [], h, _ => by simp at h

theorem Cells.append {ρ : Env} : ∀ {cs : List AC} {vs : List Value} {ds : List AC} {us : List Value}, Cells ρ cs vs → Cells ρ ds us → Cells ρ (cs ++ ds) (vs ++ us)
  | [], [], _, _, _, k => k
  | _ :: _, _ :: _, _, _, h, k => ⟨h.1, Cells.append h.2 k⟩
  | [], _ :: _, _, _, h, _ => h.elim
  | _ :: _, [], _, _, h, _ => h.elim

theorem Cells.take {ρ : Env} : ∀ {cs : List AC} {vs : List Value} (n : Nat), Cells ρ cs vs → Cells ρ (cs.take n) (vs.take n)
  | [], [], n, _ => by cases n <;> trivial
  | _ :: _, _ :: _, 0, _ => trivial
  | _ :: _, _ :: _, n + 1, h => ⟨h.1, Cells.take n h.2⟩
  | [], _ :: _, _, h => h.elim
  | _ :: _, [], _, h => h.elim

theorem Cells.drop {ρ : Env} : ∀ {cs : List AC} {vs : List Value} (n : Nat), Cells ρ cs vs → Cells ρ (cs.drop n) (vs.drop n)
  | [], [], n, _ => by cases n <;> trivial
  | _ :: _, _ :: _, 0, h => h
  | _ :: _, _ :: _, n + 1, h => Cells.drop n h.2
  | [], _ :: _, _, h => h.elim
  | _ :: _, [], _, h => h.elim

theorem Cells.set {ρ : Env} : ∀ {cs : List AC} {vs : List Value} (n : Nat) {c : AC} {v : Value}, Cells ρ cs vs → c.Is ρ v → Cells ρ (cs.set n c) (vs.set n v)
  | [], [], n, _, _, _, _ => by cases n <;> trivial
  | _ :: _, _ :: _, 0, _, _, h, k => ⟨k, h.2⟩
  | _ :: _, _ :: _, n + 1, _, _, h, k => ⟨h.1, Cells.set n h.2 k⟩
  | [], _ :: _, _, _, _, h, _ => h.elim
  | _ :: _, [], _, _, _, h, _ => h.elim

/-- what an abstract cell mentions -/
def AC.ids : AC → List RId
  | .ptr a => [a.r]
  | .sl a _ cap => if cap = 0 then [] else [a.r]
  | .clo _ caps => caps.map (·.r)
  | _ => []

theorem AA.conc_same {ρ ρ' : Env} {a : AA} (h : Same ρ ρ' a.r) : a.conc ρ = a.conc ρ' := by
  simp [AA.conc, h.blk, h.base, h.sz]

theorem AC.Is_same {ρ ρ' : Env} {c : AC} {v : Value} (h : ∀ x ∈ c.ids, Same ρ ρ' x) (k : c.Is ρ v) : c.Is ρ' v := by
  cases c with
  | ptr a => simp only [AC.Is] at k ⊢; rw [k, AA.conc_same (h a.r (by simp [AC.ids]))]
  | sl a l cap =>
    obtain ⟨o, e, hle, ho⟩ := k
    refine ⟨o, e, hle, fun hc => ?_⟩
    rw [ho hc, AA.conc_same (h a.r (by simp [AC.ids]; omega))]
  | clo f caps =>
    simp only [AC.Is] at k ⊢
    rw [k]
    congr 2
    refine List.map_congr_left fun a ha => ?_
    rw [AA.conc_same (h a.r (by simp [AC.ids]; exact ⟨a, ha, rfl⟩))]
  | _ => exact k

end Go.Eng

namespace Go.Eng

/-! what the program's tables say -/
def elP (P : Program) (t : TypeId) : Option (TypeId × Nat × Nat) :=
  match P.underlying t with
  | some (.slice e) => (P.info? e).map fun i => (e, i.size, i.bytes)
  | _ => none
def aggD : TypeDesc → Bool
  | .struct _ | .array _ _ => true
  | _ => false
def szP (P : Program) (t : TypeId) : Option (Bool × Nat) :=
  match P.underlying t, P.info? t with
  | some d, some i => some (aggD d, i.size)
  | _, _ => none
/-- field j of struct t: its offset, whether it is a struct or an array, its cells (none of zero cells) -/
def fldP (P : Program) (t : TypeId) (j : Nat) : Option (Nat × Bool × Nat) :=
  match P.underlying t with
  | some (.struct fs) => match fs[j]? with
    | some f => match szP P f.type with
      | some (ag, n + 1) => some (f.offset, ag, n + 1)
      | _ => none
    | none => none
  | _ => none

def cst1 : Value → Option AC
  | .int k n => some (.int k n)
  | .bool b => some (.bool b)
  | .string s => some (.str s)
  | .slice none 0 0 => some (.sl ⟨.nil, 0, 0, 0⟩ 0 0)
  | .pointer none => some (.raw .nilPtr)
  | .nilFunc => some (.raw .nilFunc)
  | .nilIface => some (.raw .nilIface)
  | .map none => some (.raw .nilMap)
  | _ => none
def csts : List Value → Option (List AC)
  | [] => some []
  | v :: vs => match cst1 v, csts vs with
    | some c, some cs => some (c :: cs)
    | _, _ => none
def cst : Value → Option AV
  | .agg cs => (csts cs.toList).map AV.agg
  | v => (cst1 v).map AV.c

def zeroP (P : Program) (t : TypeId) : Option (List AC) :=
  match P.info? t with
  | some i => match i.zero with
    | some z => csts z.cells.toList
    | none => none
  | none => none

/-- what a conversion does -/
inductive Cv where
  | int (k : IntKind) | str | b2s | s2b (e : TypeId) | own
def cvP (P : Program) (s d : TypeId) : Option Cv :=
  match P.underlying s, P.underlying d with
  | some (.int _), some (.int k) => some (.int k)
  | some .string, some .string => some .str
  | some (.slice e), some .string => match P.underlying e with
    | some (.int .u8) => some .b2s
    | _ => none
  | some .string, some (.slice e) => match P.underlying e with
    | some (.int .u8) => some (.s2b e)
    | _ => none
  | some (.slice _), some (.slice e) => if s = d then match P.underlying e with
    | some (.int .u8) => some .own
    | _ => none
    else none
  | _, _ => none

/-- all fields of a struct: offset, cells -/
def fldsL (P : Program) : List Field → Option (List (Nat × Nat))
  | [] => some []
  | f :: r => match P.info? f.type, fldsL P r with
    | some i, some l => some ((f.offset, i.size) :: l)
    | _, _ => none
def fldsP (P : Program) (t : TypeId) : Option (List (Nat × Nat)) :=
  match P.underlying t with
  | some (.struct fs) => fldsL P fs.toList
  | _ => none
/-- a function with a body -/
def fnP (P : Program) (f : FuncId) : Bool :=
  match P.funcs[f]? with
  | some fn => fn.name != "runtime.NumGoroutine" && fn.body.isSome
  | none => false

/-! what a called function is known to do -/
inductive Spec where
  | pure (pre : Prop) (val : AV)
  | eff (pre : Prop) (ι : Type) (cond : ι → Prop) (val : ι → AV) (new : ι → List Rg) (upd : ι → List (RId × Rg))
  | bad

structure Contract where
  f : FuncId
  sp : List AV → (RId → Option Rg) → Spec

def findC : List Contract → FuncId → List AV → (RId → Option Rg) → Spec
  | [], _, _, _ => .bad
  | c :: cs, f, args, M => if c.f = f then c.sp args M else findC cs f args M

/-! names back from a call: 'out x' is the caller's x, 'loc j' its new region n + j -/
def RId.dn (n : Nat) : RId → RId
  | .nil => .nil
  | .loc j => .loc (n + j)
  | .out x => x
def AA.dn (n : Nat) (a : AA) : AA := { a with r := a.r.dn n }
def AC.dn (n : Nat) : AC → AC
  | .ptr a => .ptr (a.dn n)
  | .sl a l c => .sl (a.dn n) l c
  | .clo f caps => .clo f (caps.map (AA.dn n))
  | x => x
def dnl (n : Nat) : List AC → List AC
  | [] => []
  | c :: cs => c.dn n :: dnl n cs
def dnt (n : Nat) : List (Bool × List AC) → List (Bool × List AC)
  | [] => []
  | (b, cs) :: r => (b, dnl n cs) :: dnt n r
def AV.dn (n : Nat) : AV → AV
  | .c x => .c (x.dn n)
  | .agg xs => .agg (dnl n xs)
  | .tup xs => .tup (dnt n xs)
def Rg.dn (n : Nat) : Rg → Rg
  | .box t cs => .box t (dnl n cs)
  | .arr o t s m c l g => .arr o t s m c l fun i k => dnl n (g i k)
def dnr (n : Nat) : List Rg → List Rg
  | [] => []
  | g :: r => g.dn n :: dnr n r

/-! reading operands -/
def rdT : List Sl → Nat → Bool → (AV → Prop) → Prop
  | [], _, _, _ => False
  | s :: _, 0, γ, K => match s with
    | .v g a => (γ = true → g = true) ∧ K a
    | .un => False
  | _ :: r, t + 1, γ, K => rdT r t γ K

def rd (S : St) (γ : Bool) (x : Operand) (K : AV → Prop) : Prop :=
  match x with
  | .tmp t => rdT S.tmps t γ K
  | .const v => match cst v with
    | some a => K a
    | none => False
  | .func f => K (.c (.clo f []))
  | .global _ => False

def rds (S : St) (γ : Bool) : List Operand → (List AV → Prop) → Prop
  | [], K => K []
  | x :: xs, K => rd S γ x fun a => rds S γ xs fun l => K (a :: l)

def dfl : AC := .raw .nilPtr

def setT : List Sl → Nat → Sl → List Sl
  | [], _, _ => []
  | _ :: r, 0, s => s :: r
  | x :: r, t + 1, s => x :: setT r t s

def St.put (S : St) (d : Option Nat) (s : Sl) : St :=
  match d with
  | some t => { S with tmps := setT S.tmps t s }
  | none => S

def St.alloc (S : St) (g : Rg) : St := { S with loc := S.loc ++ [g] }
def St.nx (S : St) : AA := ⟨.loc S.loc.length, 0, 0, 0⟩
def setG : List Rg → Nat → Rg → List Rg
  | [], _, _ => []
  | _ :: r, 0, g => g :: r
  | x :: r, t + 1, g => x :: setG r t g
def setO : List (RId × Rg) → RId → Rg → List (RId × Rg)
  | [], y, g => [(y, g)]
  | (x, h) :: r, y, g => if x = y then (y, g) :: r else (x, h) :: setO r y g
def St.setRg (S : St) (x : RId) (g : Rg) : St :=
  match x with
  | .nil => S
  | .loc n => { S with loc := setG S.loc n g }
  | .out y => { S with ov := setO S.ov y g }
def St.setAll (S : St) (n : Nat) : List (RId × Rg) → St
  | [] => S
  | (x, g) :: r => (S.setAll n r).setRg x (g.dn n)

/-- cells f .. f + n of an element, as a value -/
def cut (ag : Bool) (f n : Nat) (cs : List AC) : AV :=
  if ag then .agg ((cs.drop f).take n) else .c (cs.getD f dfl)
def patch (cs : List AC) (f : Nat) (vs : List AC) : List AC := cs.take f ++ vs ++ cs.drop (f + vs.length)

/-- a region in plain lists: of each member its capacity and its elements -/
def Rg.rows (o : Bool) (t s : Nat) (LL : List (Nat × List (List AC))) : Rg :=
  .arr o t s LL.length (fun i => (LL.getD i (0, [])).1) (fun i => (LL.getD i (0, [])).2.length) fun i k => (LL.getD i (0, [])).2.getD k []
def win (f : Nat → List AC) (n : Nat) : List (List AC) := (List.range n).map f
def tidy : Rg → Rg
  | .arr o t s n c l g => .rows o t s ((List.range n).map fun i => (c i, win (g i) (l i)))
  | g => g

def loadVC (P : Program) (S : St) (γ : Bool) (t : TypeId) (a : AA) (K : AV → Prop) : Prop :=
  match szP P t with
  | some (ag, n) => match S.look a.r with
    | some (.box _ cs) => (a.k = 0 ∧ a.i = 0 ∧ a.f + n ≤ cs.length ∧ (ag = false → n = 1)) ∧ K (cut ag a.f n cs)
    | some (.arr _ _ sz cnt _ len get) => (γ = true → a.i < cnt ∧ a.k < len a.i) ∧ (a.f + n ≤ sz ∧ (ag = false → n = 1)) ∧ K (cut ag a.f n (get a.i a.k))
    | none => False
  | none => False

def storeVC (P : Program) (S : St) (t : TypeId) (a : AA) (v : AV) (K : St → Prop) : Prop :=
  match szP P t with
  | some (_, n) => (v.cells.length = n ∧ 0 < n) ∧ match S.look a.r with
    | some (.box ty cs) => (a.k = 0 ∧ a.i = 0 ∧ a.f + n ≤ cs.length) ∧ K (S.setRg a.r (.box ty (patch cs a.f v.cells)))
    | some (.arr own ty sz cnt cap len get) => (own = true ∧ a.i < cnt ∧ a.k < len a.i ∧ a.f + n ≤ sz) ∧
        K (S.setRg a.r (tidy (.arr own ty sz cnt cap len fun i k => if i = a.i ∧ k = a.k then (patch (get a.i a.k) a.f v.cells).take sz else get i k)))
    | none => False
  | none => False

def boolT (P : Program) (t : TypeId) : Bool :=
  match P.underlying t with
  | some .bool => true
  | _ => false

def slT (P : Program) (t : TypeId) : Bool :=
  match P.underlying t with
  | some (.slice _) => true
  | _ => false
/-- the nil slice, where the text itself says it -/
def nilO (y : Operand) : Bool :=
  match y with
  | .const (.slice none 0 0) => true
  | _ => false
def nilVC (P : Program) (t : TypeId) (op : BinOp) (a : AV) (K : AV → Prop) : Prop :=
  match a with
  | .c (.sl _ _ c) => match op with
    | .eql => slT P t = true ∧ ∀ b : Bool, (b = true → c = 0) → K (B b)
    | .neq => slT P t = true ∧ ∀ b : Bool, (b = true → c = 0) → K (B (!b))
    | _ => False
  | _ => False
/-- the kinds of a struct's fields, where '==' looks at numbers, truth values and strings alone: 0, 1, 2 -/
def kind1 (P : Program) (t : TypeId) : Option Nat :=
  match P.underlying t with
  | some (.int _) => some 0
  | some .bool => some 1
  | some .string => some 2
  | _ => none
def kindL (P : Program) : Nat → List Field → Option (List Nat)
  | _, [] => some []
  | j, f :: fs => if f.name ≠ "_" ∧ f.offset = j then
      match kind1 P f.type, kindL P (j + 1) fs with
      | some k, some ks => some (k :: ks)
      | _, _ => none
    else none
def aggK (P : Program) (t : TypeId) : Option (List Nat) :=
  match P.underlying t with
  | some (.struct fs) => if P.stoodInHeld t = false ∧ P.eqGuardType P.depth t = false then kindL P 0 fs.toList else none
  | _ => none
def eqCs : List Nat → List AC → List AC → (Bool → Prop) → Prop
  | [], [], [], K => K true
  | 0 :: ks, .int k x :: xs, .int k' y :: ys, K => k = k' ∧ eqCs ks xs ys fun r => K (decide (x = y) && r)
  | 1 :: ks, .bool x :: xs, .bool y :: ys, K => eqCs ks xs ys fun r => K (decide (x = y) && r)
  | 2 :: ks, .str x :: xs, .str y :: ys, K => eqCs ks xs ys fun r => K (decide (x = y) && r)
  | _, _, _, _ => False
def eqA (o : Option (List Nat)) (xs ys : List AC) (K : Bool → Prop) : Prop :=
  match o with
  | some ks => eqCs ks xs ys K
  | none => False

def binVC (P : Program) (t : TypeId) (op : BinOp) (a b : AV) (γ : Bool) (K : AV → Prop) : Prop :=
  match a, b with
  | .c (.int k x), .c (.int k' y) => match op with
    | .shl => (γ = true → 0 ≤ y) ∧ K (.c (.int k (k.wrap (x * 2 ^ (min y.toNat k.bits)))))
    | .shr => (γ = true → 0 ≤ y) ∧ K (.c (.int k (x.fdiv (2 ^ (min y.toNat k.bits)))))
    | .add => (γ = true → k = k') ∧ K (.c (.int k (k.wrap (x + y))))
    | .sub => (γ = true → k = k') ∧ K (.c (.int k (k.wrap (x - y))))
    | .mul => (γ = true → k = k') ∧ K (.c (.int k (k.wrap (x * y))))
    | .quo => (γ = true → k = k' ∧ y ≠ 0) ∧ K (.c (.int k (k.wrap (x.tdiv y))))
    | .rem => (γ = true → k = k' ∧ y ≠ 0) ∧ K (.c (.int k (x.tmod y)))
    | .and => (γ = true → k = k') ∧ K (.c (.int k (bits .and k x y)))
    | .or => (γ = true → k = k') ∧ K (.c (.int k (bits .or k x y)))
    | .xor => (γ = true → k = k') ∧ K (.c (.int k (bits .xor k x y)))
    | .andNot => (γ = true → k = k') ∧ K (.c (.int k (bits .andNot k x y)))
    | .eql => (γ = true → k = k') ∧ K (B (decide (x = y)))
    | .neq => (γ = true → k = k') ∧ K (B (!decide (x = y)))
    | .lss => (γ = true → k = k') ∧ K (B (decide (x < y)))
    | .leq => (γ = true → k = k') ∧ K (B (decide (x ≤ y)))
    | .gtr => (γ = true → k = k') ∧ K (B (decide (y < x)))
    | .geq => (γ = true → k = k') ∧ K (B (decide (y ≤ x)))
  | .c (.bool x), .c (.bool y) => match op with
    | .eql => boolT P t = true ∧ K (B (x == y))
    | .neq => boolT P t = true ∧ K (B (x != y))
    | _ => False
  | .c (.str x), .c (.str y) => match op with
    | .add => (γ = true → x.size + y.size ≤ 9223372036854775807) ∧ K (.c (.str (x ++ y)))
    | .eql => K (B (decide (x = y)))
    | .neq => K (B (!decide (x = y)))
    | _ => False
  | .agg xs, .agg ys => match op with
    | .eql => eqA (aggK P t) xs ys fun r => K (B r)
    | .neq => eqA (aggK P t) xs ys fun r => K (B (!r))
    | _ => False
  | _, _ => γ = false ∧ K (B false)

def asI (a : AV) (K : Int → Prop) : Prop :=
  match a with
  | .c (.int _ n) => K n
  | _ => False
def optI (S : St) (γ : Bool) (x : Option Operand) (d : Int) (K : Int → Prop) : Prop :=
  match x with
  | some o => rd S γ o fun a => asI a K
  | none => K d

/-- parts of a struct, set one behind the other -/
def buildVC (S : St) (γ : Bool) (ps : List (Nat × Nat)) (cs : List AC) : List (Nat × Operand) → (List AC → Prop) → Prop
  | [], K => K cs
  | (j, x) :: r, K => match ps[j]? with
    | some (off, n) => rd S γ x fun a => (γ = true → a.cells.length = n ∧ 0 < n ∧ off + n ≤ cs.length) ∧ buildVC S γ ps (patch cs off a.cells) r K
    | none => False

def setL : List (List AC) → Nat → List AC → List (List AC)
  | [], _, _ => []
  | _ :: r, 0, c => c :: r
  | x :: r, j + 1, c => x :: setL r j c
def sliceVC (S : St) (γ : Bool) (n : Nat) (sz : Nat) : List (List AC) → List (Nat × Operand) → (List (List AC) → Prop) → Prop
  | l, [], K => K l
  | l, (j, x) :: r, K => rd S γ x fun a => (γ = true → a.cells.length = sz ∧ j < n) ∧ sliceVC S γ n sz (setL l j a.cells) r K

def callVC (C : List Contract) (S : St) (γ : Bool) (f : FuncId) (args : List AV) (K : Bool → AV → St → Prop) : Prop :=
  match findC C f args S.look with
  | .pure pre val => (γ = true → pre) ∧ K γ (val.dn S.loc.length) S
  | .eff pre ι cond val new upd => (γ = true → pre ∧ ∀ p : ι, cond p → K true ((val p).dn S.loc.length) (({ S with loc := S.loc ++ dnr S.loc.length (new p) } : St).setAll S.loc.length (upd p))) ∧ (γ = false → K false (I 0) S)
  | .bad => False

/-- slice contents read: element j of a slice value -/
def elems (get : Nat → Nat → List AC) (a : AA) (n : Nat) : List (List AC) := (List.range n).map fun j => get a.i (a.k + j)

def Sl.says (x : RId) : Sl → Bool
  | .un => false
  | .v _ (.c (.ptr a)) => decide (a.r = x)
  | .v _ (.c (.sl a _ _)) => decide (a.r = x)
  | .v _ (.c (.clo _ caps)) => caps.any fun a => decide (a.r = x)
  | .v _ (.c _) => false
  | .v _ (.agg _) => true
  | .v _ (.tup _) => true
def killT (x : RId) : List Sl → List Sl
  | [] => []
  | s :: r => (if s.says x then .un else s) :: killT x r

/-- element k of a slice, as the memory has it -/
def St.at (S : St) (a : AA) (k : Nat) : List AC :=
  match S.look a.r with
  | some (.arr _ _ _ _ _ _ get) => get a.i (a.k + k)
  | _ => []

/-- f at j, held together -/
def nth (f : Nat → List AC) (j : Nat) : List AC := f j
/-- append of m > 0 elements (their cells: news) to a slice -/
def appVC (P : Program) (S : St) (t : TypeId) (a : AA) (n cap : Nat) (m : Nat) (news : Nat → List AC) (K : AV → St → Prop) : Prop :=
  match elP P t with
  | some (e, sz, by_) => (zeroP P e).map List.length = some sz ∧ (n + m ≤ 9223372036854775807 ∧ (n + m) * by_ ≤ 140737488355328) ∧
      (n + m ≤ cap → match S.look a.r with
        | some (.arr own ty sz' cnt cp len get) => (own = true ∧ sz' = sz ∧ a.f = 0 ∧ a.i < cnt ∧ a.k + n ≤ len a.i ∧ a.k + cap ≤ cp a.i) ∧
            K (.c (.sl a (n + m) cap)) (S.setRg a.r (tidy (.arr own ty sz' cnt cp (fun i => if i = a.i then max (len i) (a.k + n + m) else len i)
              fun i k => if i = a.i ∧ a.k + n ≤ k ∧ k < a.k + n + m then nth news (k - (a.k + n)) else get i k)))
        | _ => False) ∧
      (cap < n + m → (n = 0 ∨ match S.look a.r with
        | some (.arr _ _ sz' cnt _ len _) => sz' = sz ∧ a.f = 0 ∧ a.i < cnt ∧ a.k + n ≤ len a.i
        | _ => False) ∧
        ∀ c, n + m ≤ c → c ≤ 9223372036854775807 → K (.c (.sl S.nx (n + m) c)) (S.alloc (.rows true e sz [(c, win (S.at a) n ++ win news m)])))
  | none => False

/-- m elements of a row written, from a on -/
def wrVC (S : St) (a : AA) (sz m : Nat) (news : Nat → List AC) (K : St → Prop) : Prop :=
  match S.look a.r with
  | some (.arr own ty sz' cnt cp len get) => (own = true ∧ sz' = sz ∧ a.f = 0 ∧ a.i < cnt ∧ (a.k + m ≤ len a.i ∨ (a.k ≤ len a.i ∧ a.k + m ≤ cp a.i))) ∧
      K (S.setRg a.r (tidy (.arr own ty sz' cnt cp (fun i => if i = a.i then max (len i) (a.k + 0 + m) else len i)
        fun i k => if i = a.i ∧ a.k + 0 ≤ k ∧ k < a.k + 0 + m then nth news (k - (a.k + 0)) else get i k)))
  | _ => False

end Go.Eng

namespace Go.Eng

def AV.noTup : AV → Bool
  | .tup _ => false
  | _ => true

/-- one more guard -/
def effVC (S : St) (γ : Bool) (K : Bool → AV → St → Prop) (h : (AV → St → Prop) → Prop) : Prop :=
  (γ = true → h (K true)) ∧ (γ = false → K false (I 0) S)

def asPtr (a : AV) (K : AA → Prop) : Prop :=
  match a with
  | .c (.ptr p) => K p
  | _ => False
def asB (a : AV) (K : Bool → Prop) : Prop :=
  match a with
  | .c (.bool b) => K b
  | _ => False
/-- a truth value; where nothing is done, anything -/
def asBG (γ : Bool) (a : AV) (K : Bool → Prop) : Prop :=
  match a with
  | .c (.bool b) => K b
  | _ => γ = false ∧ K false
def asSl (a : AV) (K : AA → Nat → Nat → Prop) : Prop :=
  match a with
  | .c (.sl p n c) => K p n c
  | _ => False

def unVC (op : UnOp) (a : AV) (γ : Bool) (K : AV → Prop) : Prop :=
  match op, a with
  | .not, .c (.bool b) => K (B (!b))
  | .neg, .c (.int k n) => K (.c (.int k (k.wrap (0 - n))))
  | _, _ => γ = false ∧ K (B false)

def cvVC (S : St) (γ : Bool) (v : Cv) (a : AV) (K : Bool → AV → St → Prop) : Prop :=
  match v, a with
  | .int k, .c (.int _ n) => K γ (.c (.int k (k.wrap n))) S
  | .str, .c (.str s) => K γ (.c (.str s)) S
  | .b2s, .c (.sl a n _) => if n = 0 then K γ (.c (.str .empty)) S else match S.look a.r with
    | some (.arr _ _ sz cnt _ len get) => (sz = 1 ∧ a.f = 0 ∧ (γ = true → a.i < cnt ∧ a.k + n ≤ len a.i)) ∧
        ∃ s : List UInt8, (γ = true → s.length = n ∧ ∀ j, j < n → get a.i (a.k + j) = [.int .u8 (s.getD j 0).toNat]) ∧ K γ (.c (.str ⟨s.toArray⟩)) S
    | _ => False
  | .own, .c (.sl a n c) => effVC S γ K fun K => match S.look a.r with
    | some (.arr own ty sz cnt cap len get) => (own = true ∧ a.i < cnt ∧ 0 < cap a.i ∧ 0 < c) ∧ K (.c (.sl a n c)) (S.setRg a.r (.arr false ty sz cnt cap len get))
    | _ => False
  | .s2b e, .c (.str s) => effVC S γ K fun K => ∀ c, s.size ≤ c → K (.c (.sl S.nx s.size c)) (S.alloc (.rows false e 1 [(c, s.data.toList.map fun b => [.int .u8 b.toNat])]))
  | _, _ => False

def strD (P : Program) (t : TypeId) : Bool :=
  match P.underlying t with
  | some .string => true
  | _ => false
def intD (P : Program) (t : TypeId) : Bool :=
  match P.underlying t with
  | some (.int _) => true
  | _ => false
def slD (P : Program) (t : TypeId) : Bool :=
  match P.underlying t with
  | some (.slice _) => true
  | _ => false

def biVC (P : Program) (S : St) (γ : Bool) (b : Builtin) (ts : List TypeId) (args : List AV) (K : Bool → AV → St → Prop) : Prop :=
  match b, args, ts with
  | .len, [.c (.sl _ n _)], [t] => slD P t = true ∧ K γ (I n) S
  | .len, [.c (.str s)], [t] => (γ = true → strD P t = true) ∧ K γ (I s.size) S
  | .len, [.c (.int _ _)], [_] => γ = false ∧ K γ (I 0) S
  | .len, [.c (.bool _)], [_] => γ = false ∧ K γ (I 0) S
  | .len, [.c (.ptr _)], [_] => γ = false ∧ K γ (I 0) S
  | .len, [.c (.clo _ _)], [_] => γ = false ∧ K γ (I 0) S
  | .len, [.c (.raw _)], [_] => γ = false ∧ K γ (I 0) S
  | .cap, [.c (.sl _ _ c)], [t] => slD P t = true ∧ K γ (I c) S
  | .min, [.c (.int k x), .c (.int k' y)], _ => k = k' ∧ K γ (.c (.int k (if y < x then y else x))) S
  | .max, [.c (.int k x), .c (.int k' y)], _ => k = k' ∧ K γ (.c (.int k (if x < y then y else x))) S
  | .append, [.c (.sl a n c), .c (.sl b m _)], [t, t'] => effVC S γ K fun K => t = t' ∧
      (m = 0 → (elP P t).isSome = true ∧ K (.c (.sl a n c)) S) ∧
      (0 < m → match S.look b.r with
      | some (.arr _ _ sz cnt _ len get) => (b.f = 0 ∧ b.i < cnt ∧ b.k + m ≤ len b.i ∧ (elP P t).map (·.2.1) = some sz) ∧
          appVC P S t a n c m (fun k => get b.i (b.k + k)) K
      | _ => False)
  | .append, [.c (.sl a n c), .c (.int _ x)], [t, t'] => effVC S γ K fun K => match elP P t with
      | some (e, sz, _) => match zeroP P e with
        | some z => (z.length = sz ∧ 0 < sz ∧ intD P t' = true ∧ 0 < x) ∧ appVC P S t a n c x.toNat (fun _ => z) K
        | none => False
      | none => False
  | .clear, [.c (.sl a n _)], [t] => effVC S γ K fun K => (n = 0 → slD P t = true ∧ K (.tup []) S) ∧
      (0 < n → match elP P t with
        | some (e, sz, _) => match zeroP P e with
          | some z => z.length = sz ∧ wrVC S a sz n (fun _ => z) fun S' => K (.tup []) S'
          | none => False
        | none => False)
  | .copy, [.c (.sl a n _), .c (.sl b m _)], [t, _] => effVC S γ K fun K => (min m n = 0 → (elP P t).isSome = true ∧ K (I 0) S) ∧
      (0 < min m n → match S.look b.r with
        | some (.arr _ _ sz cnt _ len get) => (b.f = 0 ∧ b.i < cnt ∧ b.k + min m n ≤ len b.i ∧ (elP P t).map (·.2.1) = some sz) ∧
            wrVC S a sz (min m n) (fun k => get b.i (b.k + k)) fun S' => K (I ((min m n : Nat))) S'
        | _ => False)
  | _, _, _ => False

def opVC (P : Program) (C : List Contract) (op : Op) (S : St) (γ : Bool) (K : Bool → AV → St → Prop) : Prop :=
  match op with
  | .move x | .assign x => rd S γ x fun a => K γ a S
  | .pick c a b => rd S γ c fun c => asB c fun c => rd S (γ && c) a fun a => asBG (γ && c) a fun a => rd S (γ && !c) b fun b => asBG (γ && !c) b fun b => K γ (B (bif c then a else b)) S
  | .box t x => rd S γ x fun a => a.noTup = true ∧ effVC S γ K fun K => K (.c (.ptr S.nx)) (S.alloc (.box t a.cells))
  | .alloc t => match zeroP P t with
    | some z => effVC S γ K fun K => K (.c (.ptr S.nx)) (S.alloc (.box t z))
    | none => False
  | .build t ps => match zeroP P t, fldsP P t with
    | some z, some l => buildVC S γ l z ps.toList fun cs => K γ (.agg cs) S
    | _, _ => False
  | .buildSlice t n ps => match elP P t with
    | some (e, sz, _) => match zeroP P e with
      | some z => (z.length = sz ∧ 0 < sz ∧ n * sz ≤ 16777216) ∧ if n = 0 then ps.toList = [] ∧ K γ (.c (.sl ⟨.nil, 0, 0, 0⟩ 0 0)) S else sliceVC S γ n sz (List.replicate n z) ps.toList fun l => effVC S γ K fun K => K (.c (.sl S.nx n n)) (S.alloc (.rows true e sz [(n, l)]))
      | none => False
    | none => False
  | .load t x => rd S γ x fun a => asPtr a fun p => loadVC P S γ t p fun v => K γ v S
  | .store t x y => rd S γ x fun a => asPtr a fun p => rd S γ y fun v => (γ = true → storeVC P S t p v fun S' => K false (I 0) S') ∧ (γ = false → K false (I 0) S)
  | .nilCheck x => rd S γ x fun a => asPtr a fun p => K γ (.c (.ptr p)) S
  | .binOp op t x y _ => if nilO y = true then rd S γ x fun a => nilVC P t op a fun v => K γ v S else rd S γ x fun a => rd S γ y fun b => binVC P t op a b γ fun v => K γ v S
  | .unOp op _ x => rd S γ x fun a => unVC op a γ fun v => K γ v S
  | .convert s d x => rd S γ x fun a => match cvP P s d with
    | some v => cvVC S γ v a K
    | none => False
  | .makeSlice t l c => match elP P t with
    | some (e, sz, by_) => match zeroP P e with
      | some z => rd S γ l fun l => asI l fun l => rd S γ c fun c => asI c fun c => effVC S γ K fun K =>
          (z.length = sz ∧ 0 ≤ l ∧ l ≤ c ∧ c ≤ 9223372036854775807 ∧ by_ * c ≤ 140737488355328) ∧
          K (.c (.sl S.nx l.toNat c.toNat)) (S.alloc (.rows true e sz [(c.toNat, List.replicate c.toNat z)]))
      | none => False
    | none => False
  | .slice t x lo hi none => rd S γ x fun a => match a with
    | .c (.sl p n c) => match elP P t, S.look p.r with
      | some (_, sz, _), some (.arr _ _ sz' _ _ _ _) => sz = sz' ∧ optI S γ lo 0 fun l => optI S γ hi n fun h => (γ = true → 0 ≤ l ∧ l ≤ h ∧ h ≤ c) ∧ K γ (.c (.sl { p with k := p.k + l.toNat } (h.toNat - l.toNat) (c - l.toNat))) S
      | some _, _ => optI S γ lo 0 fun l => optI S γ hi n fun h => (γ = true → l = 0 ∧ h = 0 ∧ c = 0) ∧ K γ (.c (.sl p 0 0)) S
      | _, _ => False
    | .c (.str s) => strD P t = true ∧ optI S γ lo 0 fun l => optI S γ hi s.size fun h => (γ = true → 0 ≤ l ∧ l ≤ h ∧ h ≤ s.size) ∧ K γ (.c (.str (s.extract l.toNat h.toNat))) S
    | _ => False
  | .slice t x lo (some hi) (some mx) => rd S γ x fun a => asSl a fun p _ c => match elP P t, S.look p.r with
      | some (_, sz, _), some (.arr _ _ sz' _ _ _ _) => sz = sz' ∧ optI S γ lo 0 fun l => rd S γ hi fun h => asI h fun h => rd S γ mx fun m => asI m fun m => (γ = true → 0 ≤ l ∧ l ≤ h ∧ h ≤ m ∧ m ≤ c) ∧ K γ (.c (.sl { p with k := p.k + l.toNat } (h.toNat - l.toNat) (m.toNat - l.toNat))) S
      | some _, _ => optI S γ lo 0 fun l => rd S γ hi fun h => asI h fun h => rd S γ mx fun m => asI m fun m => (γ = true → l = 0 ∧ h = 0 ∧ m = 0 ∧ c = 0) ∧ K γ (.c (.sl p 0 0)) S
      | _, _ => False
  | .fieldAddr t x j => rd S γ x fun a => asPtr a fun p => match fldP P t j with
    | some (off, _, _) => K γ (.c (.ptr { p with f := p.f + off })) S
    | none => False
  | .field t x j => rd S γ x fun a => match a, fldP P t j with
    | .agg cs, some (off, ag, n) => (off + n ≤ cs.length ∧ (ag = false → n = 1)) ∧ K γ (cut ag off n cs) S
    | _, _ => False
  | .indexAddr t x y => rd S γ x fun a => asSl a fun p n _ => rd S γ y fun j => asI j fun j => match elP P t, S.look p.r with
    | some (_, sz, _), some (.arr _ _ sz' _ _ _ _) => (sz = sz' ∧ (γ = true → 0 ≤ j ∧ j < n)) ∧ K γ (.c (.ptr { p with k := p.k + j.toNat })) S
    | _, _ => False
  | .index t x y => rd S γ x fun a => rd S γ y fun j => asI j fun j => match a with
    | .c (.str s) => (strD P t = true ∧ (γ = true → 0 ≤ j ∧ j < s.size)) ∧ K γ (.c (.int .u8 ((s.data.toList.getD j.toNat 0).toNat))) S
    | _ => False
  | .extract x j => rd S γ x fun a => match a with
    | .tup l => match l[j]? with
      | some (true, cs) => K γ (.agg cs) S
      | some (false, [c]) => K γ (.c c) S
      | _ => False
    | _ => False
  | .call { callee := .value f, args, .. } => rd S γ f fun f => match f with
    | .c (.clo f caps) => rds S γ args.toList fun l => callVC C S γ f (l ++ caps.map fun a => .c (.ptr a)) K
    | _ => False
  | .call { callee := .builtin b, args, argTypes } => rds S γ args.toList fun l => biVC P S γ b argTypes.toList l K
  | .makeFunc (.func f) first captured => if first.size = 0 then rds S γ captured.toList fun l => match l.mapM (fun | AV.c (.ptr p) => some p | _ => none) with
      | some ps => K γ (.c (.clo f ps)) S
      | none => False
    else False
  | _ => False

/-- the guard of an operation: the value of an earlier one -/
def grdVC (ops : Array Oper) (S : St) (g : Option (Nat × Bool)) (K : Bool → Prop) : Prop :=
  match g with
  | none => K true
  | some (j, want) => match ops[j]? with
    | some o => match o.dst with
      | some d => match S.tmps[d]? with
        | some (.v g (.c (.bool b))) => K (g && (bif want then b else !b))
        | _ => False
      | none => False
    | none => False

def stepsVC (P : Program) (C : List Contract) (ops : Array Oper) : List Oper → St → (St → Prop) → Prop
  | [], S, K => K S
  | o :: r, S, K => grdVC ops S o.guard fun γ => opVC P C o.op S γ fun g a S' => stepsVC P C ops r (S'.put o.dst (.v g a)) K

end Go.Eng

namespace Go.Eng

/-- new names in the place of old ones: 'loc j' for what was 'loc (τ j)' -/
def RId.ren (τ : List Nat) : RId → RId
  | .loc j => .loc (τ.getD j 0)
  | x => x
def AA.ren (τ : List Nat) (a : AA) : AA := { a with r := a.r.ren τ }
def AC.ren (τ : List Nat) : AC → AC
  | .ptr a => .ptr (a.ren τ)
  | .sl a l c => .sl (a.ren τ) l c
  | .clo f caps => .clo f (caps.map (AA.ren τ))
  | x => x
def renl (τ : List Nat) : List AC → List AC
  | [] => []
  | c :: cs => c.ren τ :: renl τ cs
def rent (τ : List Nat) : List (Bool × List AC) → List (Bool × List AC)
  | [] => []
  | (b, cs) :: r => (b, renl τ cs) :: rent τ r
def AV.ren (τ : List Nat) : AV → AV
  | .c x => .c (x.ren τ)
  | .agg xs => .agg (renl τ xs)
  | .tup xs => .tup (rent τ xs)
def Rg.ren (τ : List Nat) : Rg → Rg
  | .box t cs => .box t (renl τ cs)
  | .arr o t s m c l g => .arr o t s m c l fun i k => renl τ (g i k)

/-- it names none of the function's own regions from n on -/
def RId.cl (n : Nat) : RId → Prop
  | .loc j => j < n
  | _ => True
def AC.cl (n : Nat) : AC → Prop
  | .ptr a => a.r.cl n
  | .sl a _ cap => cap = 0 ∨ a.r.cl n
  | .clo _ caps => ∀ a ∈ caps, a.r.cl n
  | _ => True
def cll (n : Nat) : List AC → Prop
  | [] => True
  | c :: cs => c.cl n ∧ cll n cs
def clt (n : Nat) : List (Bool × List AC) → Prop
  | [] => True
  | (_, cs) :: r => cll n cs ∧ clt n r
def AV.cl (n : Nat) : AV → Prop
  | .c x => x.cl n
  | .agg xs => cll n xs
  | .tup xs => clt n xs
def Rg.cl (n : Nat) : Rg → Prop
  | .box _ cs => cll n cs
  | .arr _ _ _ cnt _ len g => ∀ i, i < cnt → ∀ k, k < len i → cll n (g i k)

/-- the same values: a slice without capacity may stand anywhere -/
def AC.eqv : AC → AC → Prop
  | .int k n, .int k' n' => k = k' ∧ n = n'
  | .bool b, .bool b' => b = b'
  | .str s, .str s' => s = s'
  | .ptr a, .ptr a' => a = a'
  | .sl a l c, .sl a' l' c' => l = l' ∧ c = c' ∧ (c = 0 ∨ a = a')
  | .clo f caps, .clo f' caps' => f = f' ∧ caps = caps'
  | .raw v, .raw v' => v = v'
  | _, _ => False
def eqvl : List AC → List AC → Prop
  | [], [] => True
  | c :: cs, d :: ds => c.eqv d ∧ eqvl cs ds
  | _, _ => False
def eqvt : List (Bool × List AC) → List (Bool × List AC) → Prop
  | [], [] => True
  | (b, cs) :: r, (b', ds) :: r' => (b = b' ∧ eqvl cs ds) ∧ eqvt r r'
  | _, _ => False
def AV.eqv : AV → AV → Prop
  | .c x, .c y => x.eqv y
  | .agg xs, .agg ys => eqvl xs ys
  | .tup xs, .tup ys => eqvt xs ys
  | _, _ => False
def Sl.eqv : Sl → Bool → AV → Prop
  | .v g a, g', b => g = g' ∧ a.eqv b
  | .un, _, _ => False

/-- g says no more than G does -/
def RgLe : Rg → Rg → Prop
  | .box t cs, .box t' cs' => t = t' ∧ eqvl cs' cs
  | .arr o t s n c l g, .arr o' t' s' n' c' l' g' => (o = true → o' = true) ∧ t = t' ∧ s = s' ∧ n ≤ n' ∧ (∀ i, i < n → c i = c' i ∧ l i ≤ l' i ∧ ∀ k, k < l i → g i k = g' i k)
  | _, _ => False

def toT (n : Nat) (τ : List Nat) : List Sl → List Sl → Prop
  | [], [] => True
  | s :: r, s' :: r' => (match s' with
    | .un => True
    | .v g a => s.eqv g (a.ren τ) ∧ a.cl n) ∧ toT n τ r r'
  | _, _ => False
def toL (n : Nat) (τ : List Nat) (L : List Rg) : List Nat → List Rg → Prop
  | [], [] => True
  | m :: ms, g :: gs => (match L[m]? with
    | some G => RgLe (g.ren τ) G
    | none => False) ∧ g.cl n ∧ toL n τ L ms gs
  | _, _ => False
def keysO : List (RId × Rg) → List (RId × Rg) → Prop
  | [], _ => True
  | (y, _) :: r, l => (findO l y).isSome = true ∧ keysO r l
def toO (n : Nat) (τ : List Nat) (S : St) : List (RId × Rg) → Prop
  | [] => True
  | (y, g) :: r => (match S.look (.out y) with
    | some G => RgLe (g.ren τ) G
    | none => False) ∧ g.cl n ∧ toO n τ S r

/-- the memory of S, with its regions named anew and some of it forgotten, is that of S' -/
structure ToM (τ : List Nat) (S S' : St) : Prop where
  base : S'.base = S.base
  nodup : τ.Nodup
  loc : toL τ.length τ S.loc τ S'.loc
  keys : keysO S.ov S'.ov
  ov : toO τ.length τ S S'.ov
/-- so the whole state -/
structure To (τ : List Nat) (S S' : St) : Prop where
  mem : ToM τ S S'
  tmps : toT τ.length τ S.tmps S'.tmps

def Le (S S' : St) : Prop := ∀ (W : Nat → Prop) (w0 : World) (ρ : Env) (a : Act) (w : World), Mt W w0 ρ S a w → ∃ ρ', (∀ x, Same ρ ρ' (.out x)) ∧ Mt W w0 ρ' S' a w

def resVC (P : Program) (S : St) : List ResultVar → (List AV → Prop) → Prop
  | [], K => K []
  | .tmp t :: r, K => rdT S.tmps t true fun a => resVC P S r fun l => K (a :: l)
  | .cell t ty :: r, K => rdT S.tmps t true fun a => asPtr a fun p => loadVC P S true ty p fun v => resVC P S r fun l => K (v :: l)

def AV.isAgg : AV → Bool
  | .agg _ => true
  | _ => false
def exitVC (P : Program) (rs : List ResultVar) (S : St) (K : AV → Prop) : Prop :=
  resVC P S rs fun l => match l with
    | [a] => K a
    | l => l.all AV.noTup = true ∧ K (.tup (l.map fun a => (a.isAgg, a.cells)))

/-- args, one by one -/
def Args (ρ : Env) : List AV → List Value → Prop
  | [], [] => True
  | a :: as, v :: vs => a.Is ρ v ∧ Args ρ as vs
  | _, _ => False

/-- memory behind a call, in the callee's names -/
def aft (M : RId → Option Rg) (upd : List (RId × Rg)) (new : List Rg) : RId → Option Rg
  | .nil => none
  | .loc j => new[j]?
  | .out x => match findO upd x with
    | some g => some g
    | none => (M x).map Rg.up

def CallOK (P : Program) (f : FuncId) (args : List AV) (M : RId → Option Rg) (ι : Type) (cond : ι → Prop) (val : ι → AV) (new : ι → List Rg) (upd : ι → List (RId × Rg)) : Prop :=
  ∀ (W : Nat → Prop) (ρ0 : Env) (w : World) (vs : List Value), M .nil = none →
    (∀ ρ, Agree M ρ0 ρ → MemOk W w.heap.size ρ M w ∧ Args ρ args vs) →
    Calls P f vs.toArray w fun e w' => ∃ p ρ' v, cond p ∧ e = .returned v ∧ Fr W w w' ∧
      (∀ x i, ρ'.blk (.out x) i = ρ0.blk x i) ∧ (∀ x i, ρ'.base (.out x) i = ρ0.base x i) ∧ (∀ x, ρ'.sz (.out x) = ρ0.sz x) ∧
      (∀ p' ∈ upd p, (M p'.1).isSome) ∧
      ∀ ρ, Agree (aft M (upd p) (new p)) ρ' ρ → MemOk W w.heap.size ρ (aft M (upd p) (new p)) w' ∧ (val p).Is ρ v

def Spec.OK (P : Program) (f : FuncId) (args : List AV) (M : RId → Option Rg) : Spec → Prop
  | .pure pre val => pre → CallOK P f args M Unit (fun _ => True) (fun _ => val) (fun _ => []) (fun _ => [])
  | .eff pre ι cond val new upd => pre → CallOK P f args M ι cond val new upd
  | .bad => True

/-- a function without a body that only answers -/
def ExtOK (P : Program) (c : Contract) : Prop := ∀ args M, match c.sp args M with
  | .pure pre val => pre → ∀ (W : Nat → Prop) (n0 : Nat) (ρ0 : Env) (w : World) (vs : List Value), (∀ ρ, Agree M ρ0 ρ → MemOk W n0 ρ M w ∧ Args ρ args vs) → ∃ v, (callFunc c.f vs.toArray).run P w = .ok (.value v) w ∧ ∀ n ρ, AV.Is ρ (val.dn n) v
  | .eff .. => False
  | .bad => True
def SpecOK (P : Program) (c : Contract) : Prop :=
  (fnP P c.f = true ∧ ∀ args M, (c.sp args M).OK P c.f args M) ∨ ExtOK P c

end Go.Eng

namespace Go.Eng

/-! ### names turned -/
def Env.pull (ρ : Env) (h : RId → RId) : Env := ⟨fun x => ρ.blk (h x), fun x => ρ.base (h x), fun x => ρ.sz (h x)⟩
def AA.map (h : RId → RId) (a : AA) : AA := { a with r := h a.r }
def AC.map (h : RId → RId) : AC → AC
  | .ptr a => .ptr (a.map h)
  | .sl a l c => .sl (a.map h) l c
  | .clo f caps => .clo f (caps.map (AA.map h))
  | x => x
def Rg.map (h : RId → RId) : Rg → Rg
  | .box t cs => .box t (cs.map (AC.map h))
  | .arr o t s n c l g => .arr o t s n c l fun i k => (g i k).map (AC.map h)
def AV.map (h : RId → RId) : AV → AV
  | .c x => .c (x.map h)
  | .agg xs => .agg (xs.map (AC.map h))
  | .tup xs => .tup (xs.map fun p => (p.1, p.2.map (AC.map h)))

theorem AC.up_map (c : AC) : c.up = c.map .out := by cases c <;> rfl
theorem AC.dn_map (n : Nat) (c : AC) : c.dn n = c.map (RId.dn n) := by cases c <;> rfl
theorem AC.ren_map (τ : List Nat) (c : AC) : c.ren τ = c.map (RId.ren τ) := by cases c <;> rfl
theorem dnl_map (n : Nat) : ∀ cs : List AC, dnl n cs = cs.map (AC.map (RId.dn n))
  | [] => rfl
  | c :: cs => by simp [dnl, dnl_map n cs, AC.dn_map]
theorem renl_map (τ : List Nat) : ∀ cs : List AC, renl τ cs = cs.map (AC.map (RId.ren τ))
  | [] => rfl
  | c :: cs => by simp [renl, renl_map τ cs, AC.ren_map]
theorem upl_map (cs : List AC) : cs.map AC.up = cs.map (AC.map .out) := List.map_congr_left fun c _ => AC.up_map c
theorem Rg.up_map (g : Rg) : g.up = g.map .out := by cases g <;> simp [Rg.up, Rg.map, upl_map]
theorem Rg.dn_map (n : Nat) (g : Rg) : g.dn n = g.map (RId.dn n) := by cases g <;> simp [Rg.dn, Rg.map, dnl_map]
theorem Rg.ren_map (τ : List Nat) (g : Rg) : g.ren τ = g.map (RId.ren τ) := by cases g <;> simp [Rg.ren, Rg.map, renl_map]
theorem dnt_map (n : Nat) : ∀ xs : List (Bool × List AC), dnt n xs = xs.map fun p => (p.1, p.2.map (AC.map (RId.dn n)))
  | [] => rfl
  | (b, cs) :: r => by simp [dnt, dnt_map n r, dnl_map]
theorem rent_map (τ : List Nat) : ∀ xs : List (Bool × List AC), rent τ xs = xs.map fun p => (p.1, p.2.map (AC.map (RId.ren τ)))
  | [] => rfl
  | (b, cs) :: r => by simp [rent, rent_map τ r, renl_map]
theorem AV.up_map (a : AV) : a.up = a.map .out := by cases a <;> simp [AV.up, AV.map, upl_map, AC.up_map]
theorem AV.dn_map (n : Nat) (a : AV) : a.dn n = a.map (RId.dn n) := by cases a <;> simp [AV.dn, AV.map, dnl_map, AC.dn_map, dnt_map]
theorem AV.ren_map (τ : List Nat) (a : AV) : a.ren τ = a.map (RId.ren τ) := by cases a <;> simp [AV.ren, AV.map, renl_map, AC.ren_map, rent_map]

theorem AC.Is_map {ρ : Env} {h : RId → RId} {c : AC} {v : Value} : (c.map h).Is ρ v ↔ c.Is (ρ.pull h) v := by
  cases c with
  | clo f caps => simp only [AC.map, AC.Is, List.map_map]; rfl
  | _ => exact Iff.rfl
theorem Cells_map {ρ : Env} {h : RId → RId} : ∀ {cs : List AC} {vs : List Value}, Cells ρ (cs.map (AC.map h)) vs ↔ Cells (ρ.pull h) cs vs
  | [], [] => Iff.rfl
  | _ :: _, _ :: _ => and_congr AC.Is_map Cells_map
  | [], _ :: _ => Iff.rfl
  | _ :: _, [] => Iff.rfl
theorem AV.Is_map {ρ : Env} {h : RId → RId} {a : AV} {v : Value} : (a.map h).Is ρ v ↔ a.Is (ρ.pull h) v := by
  cases a with
  | c x => exact AC.Is_map
  | agg xs => simp only [AV.map, AV.Is, Cells_map]
  | tup xs =>
    simp only [AV.map, AV.Is, List.length_map, List.getElem?_map]
    refine exists_congr fun vs => and_congr_right fun _ => and_congr_right fun _ => ?_
    constructor
    · intro H j b cs u h1 h2
      have := H j b (cs.map (AC.map h)) u (by simp [h1]) h2
      cases b
      · simp only [Bool.false_eq_true, if_false] at this ⊢
        obtain ⟨c, e, k⟩ := this
        cases cs with
        | nil => simp at e
        | cons d r =>
          simp at e
          obtain ⟨rfl, rfl⟩ := e
          exact ⟨d, rfl, AC.Is_map.1 k⟩
      · simp only [if_true] at this ⊢
        obtain ⟨us, e, k⟩ := this
        exact ⟨us, e, Cells_map.1 k⟩
    · intro H j b cs u h1 h2
      cases hx : xs[j]? with
      | none => simp [hx] at h1
      | some p =>
        simp [hx] at h1
        obtain ⟨rfl, rfl⟩ := h1
        have := H j p.1 p.2 u hx h2
        cases hb : p.1
        · simp only [hb, Bool.false_eq_true, if_false] at this ⊢
          obtain ⟨c, e, k⟩ := this
          exact ⟨c.map h, by simp [e], AC.Is_map.2 k⟩
        · simp only [hb, if_true] at this ⊢
          obtain ⟨us, e, k⟩ := this
          exact ⟨us, e, Cells_map.2 k⟩

theorem RegOk_map {ρ : Env} {h : RId → RId} {x : RId} {w : World} {g : Rg} : RegOk ρ (h x) w (g.map h) ↔ RegOk (ρ.pull h) x w g := by
  cases g with
  | box t cs => simp only [Rg.map, RegOk, Cells_map]; rfl
  | arr o t s n c l g =>
    simp only [Rg.map, RegOk, List.length_map, List.getElem?_map]
    constructor
    · rintro ⟨h1, h2⟩
      refine ⟨h1, fun i hi => ⟨(h2 i hi).1, fun k hk => ⟨((h2 i hi).2.1 k hk).1, fun f d hd => ?_⟩, (h2 i hi).2.2⟩⟩
      obtain ⟨v, e, q⟩ := ((h2 i hi).2.1 k hk).2 f (d.map h) (by simp [hd])
      exact ⟨v, e, AC.Is_map.1 q⟩
    · rintro ⟨h1, h2⟩
      refine ⟨h1, fun i hi => ⟨(h2 i hi).1, fun k hk => ⟨((h2 i hi).2.1 k hk).1, fun f d hd => ?_⟩, (h2 i hi).2.2⟩⟩
      cases hx : (g i k)[f]? with
      | none => simp [hx] at hd
      | some d' =>
        simp [hx] at hd
        obtain ⟨v, e, q⟩ := ((h2 i hi).2.1 k hk).2 f d' hx
        exact ⟨v, e, hd ▸ AC.Is_map.2 q⟩
theorem Rg.own_map (h : RId → RId) (g : Rg) : (g.map h).own = g.own := by cases g <;> rfl
theorem Rg.has_map (h : RId → RId) (g : Rg) (i : Nat) : (g.map h).has i ↔ g.has i := by cases g <;> exact Iff.rfl

/-! ### memory that only grows -/
theorem cell?_old {w w' : World} {a : Addr} {v : Value} (h : ∀ b, b < w.heap.size → w'.heap[b]? = w.heap[b]?) (k : w.cell? a = some v) : w'.cell? a = some v := by
  have hb := World.block_lt_of_cell? w a k
  rw [World.cell?_of_block (w := w) (h _ hb)]; exact k
theorem lt_of_block {w : World} {b : Nat} {o : Obj} (h : w.heap[b]? = some o) : b < w.heap.size := (Array.getElem?_eq_some_iff.1 h).1

theorem RegOk_old {ρ : Env} {x : RId} {w w' : World} {g : Rg} (h : ∀ b, b < w.heap.size → w'.heap[b]? = w.heap[b]?) (k : RegOk ρ x w g) : RegOk ρ x w' g := by
  cases g with
  | box t cs =>
    obtain ⟨h1, vs, h2, h3⟩ := k
    exact ⟨h1, vs, by rw [h _ (lt_of_block h2)]; exact h2, h3⟩
  | arr o t s n c l g =>
    obtain ⟨h1, h2⟩ := k
    refine ⟨h1, fun i hi => ⟨(h2 i hi).1, fun k hk => ⟨((h2 i hi).2.1 k hk).1, fun f d hd => ?_⟩, fun ho hc => ?_⟩⟩
    · obtain ⟨v, e, q⟩ := ((h2 i hi).2.1 k hk).2 f d hd
      exact ⟨v, cell?_old h e, q⟩
    · obtain ⟨e, cur, e2, e3⟩ := (h2 i hi).2.2 ho hc
      exact ⟨e, cur, by rw [h _ (lt_of_block e2)]; exact e2, e3⟩

/-- an environment turned at one name -/
def Env.set (ρ : Env) (x : RId) (b s : Nat) : Env :=
  ⟨fun y i => if y = x then b else ρ.blk y i, fun y i => if y = x then 0 else ρ.base y i, fun y => if y = x then s else ρ.sz y⟩

theorem findO_none {l : List (RId × Rg)} : findO l .nil = none → True := fun _ => trivial

theorem look_alloc (S : St) (g : Rg) (x : RId) : (S.alloc g).look x = if x = .loc S.loc.length then some g else S.look x := by
  cases x with
  | loc n =>
    simp only [St.look, St.alloc, RId.loc.injEq]
    by_cases h : n = S.loc.length
    · subst h; simp
    · rw [if_neg h]
      rcases Nat.lt_or_ge n S.loc.length with h' | h'
      · rw [List.getElem?_append_left h']
      · rw [List.getElem?_eq_none (by simp; omega), List.getElem?_eq_none h']
  | out y => simp [St.look, St.alloc]
  | nil => simp [St.look]

theorem look_len (S : St) : S.look (.loc S.loc.length) = none := by simp [St.look]

/-- A NEW REGION of one member, its block the new one. -/
theorem Mt_alloc {W : Nat → Prop} {w0 : World} {ρ0 : Env} {S : St} {a : Act} {w : World} (hm : Mt W w0 ρ0 S a w) (g : Rg) (s : Nat) (o : Obj)
    (hone : ∀ i, g.has i → i = 0)
    (hok : ∀ ρ : Env, Agree S.look ρ0 ρ → ρ.blk (.loc S.loc.length) 0 = w.heap.size → ρ.base (.loc S.loc.length) 0 = 0 → ρ.sz (.loc S.loc.length) = s → RegOk ρ (.loc S.loc.length) (w.alloc o) g) :
    Mt W w0 (ρ0.set (.loc S.loc.length) w.heap.size s) (S.alloc g) a (w.alloc o) := by
  intro ρ hρ
  have hn : ∀ x g', S.look x = some g' → x ≠ .loc S.loc.length := fun x g' h e => by subst e; rw [look_len] at h; cases h
  have hag : Agree S.look ρ0 ρ := by
    intro x g' hx
    have hne := hn x g' hx
    have := hρ x g' (by rw [look_alloc, if_neg hne]; exact hx)
    exact ⟨fun i => by have := this.blk i; simpa [Env.set, hne] using this, fun i => by have := this.base i; simpa [Env.set, hne] using this, by have := this.sz; simpa [Env.set, hne] using this⟩
  have hnew := hρ (.loc S.loc.length) g (by rw [look_alloc, if_pos rfl])
  have hb : ∀ i, ρ.blk (.loc S.loc.length) i = w.heap.size := fun i => by have := hnew.blk i; simpa [Env.set] using this.symm
  have hba : ρ.base (.loc S.loc.length) 0 = 0 := by have := hnew.base 0; simpa [Env.set] using this.symm
  have hsz : ρ.sz (.loc S.loc.length) = s := by have := hnew.sz; simpa [Env.set] using this.symm
  have hr := hm ρ hag
  have hold : ∀ b, b < w.heap.size → (w.alloc o).heap[b]? = w.heap[b]? := fun b hb => Go.RowKit.Below.heap_alloc w o b hb
  refine ⟨⟨?_, ?_, ?_, ?_⟩, ?_, hr.size, hr.tmps, hr.defers⟩
  · intro x g' hx
    rw [look_alloc] at hx
    split at hx
    · rename_i e; subst e; obtain rfl := Option.some.inj hx
      exact hok ρ hag (hb 0) hba hsz
    · exact RegOk_old hold (hr.mem.regs x g' hx)
  · intro x g1 i x' g2 i' h1 ho h1h h2 h2h hne
    rw [look_alloc] at h1 h2
    split at h1
    · rename_i e; subst e; obtain rfl := Option.some.inj h1
      split at h2
      · rename_i e; subst e; obtain rfl := Option.some.inj h2
        rw [hone _ h1h, hone _ h2h] at hne
        simp at hne
      · rw [hb i]
        have := hr.mem.lt x' g2 i' h2 h2h
        omega
    · split at h2
      · rename_i e; subst e; obtain rfl := Option.some.inj h2
        rw [hb i']
        have := hr.mem.lt x g1 i h1 h1h
        omega
      · exact hr.mem.dis x g1 i x' g2 i' h1 ho h1h h2 h2h hne
  · intro x g' i hx ho hh
    rw [look_alloc] at hx
    split at hx
    · rename_i e; subst e
      right; rw [hb i]; exact hr.fr.size
    · exact hr.mem.wr x g' i hx ho hh
  · intro x g' i hx hh
    rw [look_alloc] at hx
    split at hx
    · rename_i e; subst e
      rw [hb i]; simp
    · have := hr.mem.lt x g' i hx hh
      simp; omega
  · have hf := hr.fr
    exact ⟨hf.os, hf.tape, hf.output, by have := hf.size; simp; omega, fun b hb hw => by rw [hold b (by have := hf.size; omega)]; exact hf.block b hb hw⟩

/-- memory that is new and not told of -/
theorem Mt_more {W : Nat → Prop} {w0 : World} {ρ0 : Env} {S : St} {a : Act} {w : World} (hm : Mt W w0 ρ0 S a w) (o : Obj) : Mt W w0 ρ0 S a (w.alloc o) := by
  intro ρ hρ
  have hr := hm ρ hρ
  have hold : ∀ b, b < w.heap.size → (w.alloc o).heap[b]? = w.heap[b]? := fun b hb => Go.RowKit.Below.heap_alloc w o b hb
  have hf := hr.fr
  exact ⟨⟨fun x g h => RegOk_old hold (hr.mem.regs x g h), hr.mem.dis, hr.mem.wr, fun x g i h hh => by have := hr.mem.lt x g i h hh; simp; omega⟩, ⟨hf.os, hf.tape, hf.output, by have := hf.size; simp; omega, fun b hb hw => by rw [hold b (by have := hf.size; omega)]; exact hf.block b hb hw⟩, hr.size, hr.tmps, hr.defers⟩

/-- a draw turns nothing -/
theorem Mt_drew {W : Nat → Prop} {w0 : World} {ρ0 : Env} {S : St} {a : Act} {w : World} (hm : Mt W w0 ρ0 S a w) : Mt W w0 ρ0 S a { w with drawn := w.drawn + 1 } := by
  intro ρ hρ
  have hr := hm ρ hρ
  exact ⟨⟨fun x g h => RegOk_old (fun _ _ => rfl) (hr.mem.regs x g h), hr.mem.dis, hr.mem.wr, hr.mem.lt⟩, ⟨hr.fr.os, hr.fr.tape, hr.fr.output, hr.fr.size, hr.fr.block⟩, hr.size, hr.tmps, hr.defers⟩

theorem setT_length : ∀ (l : List Sl) (t : Nat) (s : Sl), (setT l t s).length = l.length
  | [], _, _ => rfl
  | _ :: _, 0, _ => rfl
  | _ :: r, t + 1, s => by simp [setT, setT_length r t s]
theorem setT_get : ∀ (l : List Sl) (t : Nat) (s : Sl) (u : Nat), (setT l t s)[u]? = if u = t then (if t < l.length then some s else none) else l[u]?
  | [], t, s, u => by simp [setT]
  | x :: r, 0, s, 0 => by simp [setT]
  | x :: r, 0, s, u + 1 => by simp [setT]
  | x :: r, t + 1, s, 0 => by simp [setT]
  | x :: r, t + 1, s, u + 1 => by simp [setT, setT_get r t s u]

/-- a slot written -/
theorem Mt_put {W : Nat → Prop} {w0 : World} {ρ0 : Env} {S : St} {a : Act} {w : World} (hm : Mt W w0 ρ0 S a w) (d : Option Nat) (s : Sl) (v : Value)
    (hs : ∀ ρ, Agree S.look ρ0 ρ → SlOk ρ s v) : Mt W w0 ρ0 (S.put d s) (a.put d v) w := by
  cases d with
  | none => exact hm
  | some d =>
    intro ρ hρ
    have hr := hm ρ hρ
    refine ⟨hr.mem, hr.fr, by simp [Act.put, St.put, setT_length, hr.size], fun t s' h => ?_, hr.defers⟩
    simp only [St.put, setT_get] at h
    split at h
    · rename_i e; subst e
      split at h
      · rename_i hlt
        obtain rfl := Option.some.inj h
        have : (a.put (some t) v).tmps.getD t undef = v := by
          have hlt' : t < a.tmps.size := by rw [hr.size]; exact hlt
          simp [Act.put, Array.getD, hlt']
        rw [this]; exact hs ρ hρ
      · cases h
    · rename_i hne
      have : (a.put (some d) v).tmps.getD t undef = a.tmps.getD t undef := by
        simp only [Act.put, Array.getD_eq_getD_getElem?, Array.getElem?_setIfInBounds]
        rw [if_neg (Ne.symm hne)]
      rw [this]; exact hr.tmps t s' h

end Go.Eng

namespace Go.Eng

theorem rdT_sound : ∀ {l : List Sl} {t : Nat} {γ : Bool} {K : AV → Prop}, rdT l t γ K → ∃ g a, l[t]? = some (.v g a) ∧ (γ = true → g = true) ∧ K a
  | [], _, _, _, h => h.elim
  | .v g a :: _, 0, _, _, h => ⟨g, a, rfl, h.1, h.2⟩
  | .un :: _, 0, _, _, h => h.elim
  | _ :: r, t + 1, _, _, h => by simpa using rdT_sound (l := r) (t := t) h

theorem cst1_sound {v : Value} {c : AC} (h : cst1 v = some c) (ρ : Env) : c.Is ρ v := by
  unfold cst1 at h
  split at h <;> first | (obtain rfl := Option.some.inj h; first | rfl | exact ⟨none, rfl, Nat.le_refl _, fun h => absurd h (by omega)⟩) | cases h
theorem csts_sound : ∀ {vs : List Value} {cs : List AC}, csts vs = some cs → ∀ ρ, Cells ρ cs vs
  | [], cs, h, _ => by simp [csts] at h; subst h; trivial
  | v :: vs, cs, h, ρ => by
    simp only [csts] at h
    split at h
    · rename_i c cs' h1 h2
      obtain rfl := Option.some.inj h
      exact ⟨cst1_sound h1 ρ, csts_sound h2 ρ⟩
    · cases h
theorem cst_sound {v : Value} {a : AV} (h : cst v = some a) (ρ : Env) : a.Is ρ v := by
  unfold cst at h
  split at h
  · rename_i cs
    cases hc : csts cs.toList with
    | none => simp [hc] at h
    | some l =>
      simp [hc] at h
      subst h
      exact ⟨cs.toList, by simp, csts_sound hc ρ⟩
  · cases hc : cst1 v with
    | none => simp [hc] at h
    | some c =>
      simp [hc] at h
      subst h
      exact cst1_sound hc ρ

section
variable {W : Nat → Prop} {w0 : World} {ρ0 : Env} {S : St} {a : Act} {w : World}

theorem rd_sound {x : Operand} {K : AV → Prop} (hm : Mt W w0 ρ0 S a w) (h : rd S true x K) : ∃ v, K v ∧ ∀ ρ, Agree S.look ρ0 ρ → v.Is ρ (a.eval x) := by
  cases x with
  | tmp t =>
    obtain ⟨g, v, hg, h1, h2⟩ := rdT_sound h
    refine ⟨v, h2, fun ρ hρ => ?_⟩
    have := (hm ρ hρ).tmps t _ hg
    exact this.1 (h1 rfl)
  | const v =>
    simp only [rd] at h
    split at h
    · rename_i c hc
      exact ⟨c, h, fun ρ _ => cst_sound hc ρ⟩
    · exact h.elim
  | func f => exact ⟨_, h, fun ρ _ => rfl⟩
  | global g => exact h.elim

/-- one reading for all the fitting environments: some environment fits -/
theorem rd_false {x : Operand} {γ : Bool} {K : AV → Prop} (h : rd S γ x K) : ∃ v, K v := by
  cases x with
  | tmp t => obtain ⟨g, v, _, _, h2⟩ := rdT_sound h; exact ⟨v, h2⟩
  | const v =>
    simp only [rd] at h
    split at h
    · exact ⟨_, h⟩
    · exact h.elim
  | func f => exact ⟨_, h⟩
  | global g => exact h.elim

theorem rds_sound (hm : Mt W w0 ρ0 S a w) : ∀ {xs : List Operand} {K : List AV → Prop}, rds S true xs K → ∃ l, K l ∧ l.length = xs.length ∧ ∀ ρ, Agree S.look ρ0 ρ → Args ρ l (xs.map a.eval)
  | [], _, h => ⟨[], h, rfl, fun _ _ => trivial⟩
  | x :: xs, K, h => by
    obtain ⟨v, h1, h2⟩ := rd_sound hm h
    obtain ⟨l, h3, h4, h5⟩ := rds_sound hm (xs := xs) h1
    exact ⟨v :: l, h3, by simp [h4], fun ρ hρ => ⟨h2 ρ hρ, h5 ρ hρ⟩⟩
theorem rds_false : ∀ {γ : Bool} {xs : List Operand} {K : List AV → Prop}, rds S γ xs K → ∃ l, K l
  | _, [], _, h => ⟨[], h⟩
  | γ, x :: xs, K, h => by
    obtain ⟨v, h1⟩ := rd_false h
    obtain ⟨l, h3⟩ := rds_false (xs := xs) h1
    exact ⟨v :: l, h3⟩
end

/-! ### running the operations -/
section
variable {P : Program} {w : World}

theorem run_szP {t : TypeId} {ag : Bool} {n : Nat} (h : szP P t = some (ag, n)) (w : World) : (isAgg t).run P w = .ok ag w ∧ (sizeOf t).run P w = .ok n w := by
  unfold szP at h
  split at h
  · rename_i d i hd hi
    simp only [Option.some.injEq, Prod.mk.injEq] at h
    obtain ⟨rfl, rfl⟩ := h
    refine ⟨?_, by simp [sizeOf, typeInfo, hi]⟩
    unfold isAgg aggD
    simp only [Sem.run_bind, run_underlying hd]
    cases d <;> rfl
  · cases h

theorem run_elP {t : TypeId} {e : TypeId} {s b : Nat} (h : elP P t = some (e, s, b)) : P.underlying t = some (.slice e) ∧ ∃ i, P.info? e = some i ∧ i.size = s ∧ i.bytes = b := by
  unfold elP at h
  split at h
  · rename_i e' hd
    cases hi : P.info? e' with
    | none => simp [hi] at h
    | some i =>
      simp [hi] at h
      obtain ⟨rfl, rfl, rfl⟩ := h
      exact ⟨hd, i, hi, rfl, rfl⟩
  · cases h

theorem run_zeroP {t : TypeId} {z : List AC} (h : zeroP P t = some z) : ∃ v i, P.info? t = some i ∧ i.zero = some v ∧ (∀ ρ, Cells ρ z v.cells.toList) ∧ ∀ w, (zeroValue t).run P w = .ok v w := by
  unfold zeroP at h
  split at h
  · rename_i i hi
    split at h
    · rename_i v hv
      exact ⟨v, i, hi, hv, csts_sound h, fun w => by simp [zeroValue, typeInfo, hi, hv]⟩
    · cases h
  · cases h

theorem run_fldP {t j : Nat} {off : Nat} {ag : Bool} {n : Nat} (h : fldP P t j = some (off, ag, n)) (b o : Nat) (w : World) :
    (Instr.fieldAt t (.pointer (some ⟨b, o, none⟩)) j).run P w = .ok (.pointer (some ⟨b, o + off, none⟩)) w := by
  unfold fldP at h
  split at h
  · rename_i fs hd
    split at h
    · rename_i f hf
      split at h
      · rename_i ag' n' hs
        simp only [Option.some.injEq, Prod.mk.injEq] at h
        obtain ⟨rfl, rfl, rfl⟩ := h
        have hsz := (run_szP hs w).2
        simp [Instr.fieldAt, run_underlying hd, hf, Instr.sureAddr, fieldPlace, hsz, Addr.add_lit]
      · cases h
    · cases h
  · cases h

theorem run_load_one {a : Addr} {v : Value} (h : w.cell? a = some v) : (load a).run P w = .ok v w := by simp [load, Sem.run, h]

theorem run_loadAt {t : TypeId} {ag : Bool} {n : Nat} (h : szP P t = some (ag, n)) (b o : Nat) (vs : List Value) (hl : vs.length = n) (h1 : ag = false → n = 1)
    (hc : ∀ j v, vs[j]? = some v → w.cell? ⟨b, o + j, none⟩ = some v) :
    (Instr.loadAt t (.pointer (some ⟨b, o, none⟩))).run P w = .ok (if ag then .agg vs.toArray else vs.getD 0 undef) w := by
  obtain ⟨ha, hs⟩ := run_szP h w
  cases ag
  · have hn := h1 rfl
    obtain ⟨v, rfl⟩ : ∃ v, vs = [v] := List.length_eq_one_iff.1 (by omega)
    have h0 : w.cell? ⟨b, o, none⟩ = some v := by simpa using hc 0 v rfl
    simp [Instr.loadAt, Instr.sureAddr, loadVar, ha, h0]
  · have := run_loadCells_list (P := P) w ⟨b, o, none⟩ vs (fun j v hj => by rw [Addr.add_lit]; exact hc j v hj)
    simp [Instr.loadAt, Instr.sureAddr, loadVar, ha, hs, ← hl, this]
end

/-- the addresses of a region's cells -/
theorem conc_eq {ρ : Env} {p : AA} : p.conc ρ = ⟨ρ.blk p.r p.i, ρ.base p.r p.i + (p.k * ρ.sz p.r + p.f), none⟩ := rfl

theorem cells_drop_take {ρ : Env} {cs : List AC} {vs : List Value} (f n : Nat) (h : Cells ρ cs vs) : Cells ρ ((cs.drop f).take n) ((vs.drop f).take n) := (h.drop f).take n

/-- 'cut' is what is loaded -/
theorem cut_Is {ρ : Env} {ag : Bool} {f n : Nat} {cs : List AC} {us : List Value} (hc : Cells ρ ((cs.drop f).take n) us) (hf : f + n ≤ cs.length) (h1 : ag = false → n = 1) :
    (cut ag f n cs).Is ρ (if ag then .agg us.toArray else us.getD 0 undef) := by
  cases ag
  · have hn := h1 rfl
    subst hn
    simp only [cut, Bool.false_eq_true, if_false]
    have hlt : f < cs.length := by omega
    have e : (cs.drop f).take 1 = [cs.getD f dfl] := by
      rw [List.drop_eq_getElem_cons hlt, List.take_succ_cons, List.take_zero]
      simp [List.getD, List.getElem?_eq_getElem hlt]
    rw [e] at hc
    cases us with
    | nil => exact hc.elim
    | cons u r => exact hc.1
  · exact ⟨us, rfl, hc⟩

section
variable {P : Program} {W : Nat → Prop} {w0 : World} {ρ0 : Env} {S : St} {a : Act} {w : World}

theorem load_sound {t : TypeId} {p : AA} {K : AV → Prop} (hm : Mt W w0 ρ0 S a w) (h : loadVC P S true t p K) :
    ∃ v u, K v ∧ (Instr.loadAt t (.pointer (some (p.conc ρ0)))).run P w = .ok u w ∧ ∀ ρ, Agree S.look ρ0 ρ → v.Is ρ u := by
  unfold loadVC at h
  split at h
  · rename_i ag n hsz
    have h0 := hm ρ0 (Agree.refl _ _)
    split at h
    · rename_i ty cs hl
      obtain ⟨⟨hk, hi, hf, h1⟩, hK⟩ := h
      obtain ⟨hb, vs, hh, hcs⟩ := h0.mem.regs _ _ hl
      have hlen := hcs.length
      refine ⟨_, if ag then .agg ((vs.drop p.f).take n).toArray else ((vs.drop p.f).take n).getD 0 undef, hK, ?_, fun ρ hρ => ?_⟩
      · rw [conc_eq, hk, hi, hb]
        refine run_loadAt hsz _ _ ((vs.drop p.f).take n) (by simp; omega) h1 fun j v hj => ?_
        have hj' := (List.getElem?_eq_some_iff.1 hj).1
        simp only [World.cell?, hh, Nat.zero_mul, Nat.zero_add, Option.isSome_none, Bool.false_eq_true, if_false]
        rw [List.getElem?_take] at hj
        split at hj
        · simpa using hj
        · cases hj
      · obtain ⟨hb', vs', hh', hcs'⟩ := (hm ρ hρ).mem.regs _ _ hl
        have hsame := hρ _ _ hl
        rw [← hsame.blk 0] at hh'
        rw [hh] at hh'
        have : vs = vs' := by simpa using hh'
        subst this
        exact cut_Is (cells_drop_take _ _ hcs') (by omega) h1
    · rename_i own ty sz cnt cap len get hl
      obtain ⟨hik, ⟨hf, h1⟩, hK⟩ := h
      obtain ⟨hi, hk⟩ := hik rfl
      have hreg := h0.mem.regs _ _ hl
      obtain ⟨hs0, hr⟩ := hreg
      obtain ⟨hlc, hcells, _⟩ := hr _ hi
      obtain ⟨hlen, hget⟩ := hcells _ hk
      have hval : ∀ j, j < n → ∃ v, w.cell? ⟨ρ0.blk p.r p.i, ρ0.base p.r p.i + (p.k * ρ0.sz p.r + p.f) + j, none⟩ = some v := by
        intro j hj
        obtain ⟨v, hv, _⟩ := hget (p.f + j) _ (List.getElem?_eq_getElem (by omega))
        refine ⟨v, ?_⟩
        rw [hs0]
        rw [show ρ0.base p.r p.i + (p.k * sz + p.f) + j = ρ0.base p.r p.i + (p.k * sz + (p.f + j)) by omega]
        exact hv
      refine ⟨_, if ag then .agg ((List.range n).map fun j => (w.cell? ⟨ρ0.blk p.r p.i, ρ0.base p.r p.i + (p.k * ρ0.sz p.r + p.f) + j, none⟩).getD undef).toArray else (((List.range n).map fun j => (w.cell? ⟨ρ0.blk p.r p.i, ρ0.base p.r p.i + (p.k * ρ0.sz p.r + p.f) + j, none⟩).getD undef)).getD 0 undef, hK, ?_, fun ρ hρ => ?_⟩
      · rw [conc_eq]
        refine run_loadAt hsz _ _ ((List.range n).map fun j => (w.cell? ⟨ρ0.blk p.r p.i, ρ0.base p.r p.i + (p.k * ρ0.sz p.r + p.f) + j, none⟩).getD undef) (by simp) h1 fun j v hj => ?_
        have hj' : j < n := by have := (List.getElem?_eq_some_iff.1 hj).1; simpa using this
        obtain ⟨u, hu⟩ := hval j hj'
        simp [hj', hu] at hj
        rw [hu, hj]
      · have hreg' := (hm ρ hρ).mem.regs _ _ hl
        obtain ⟨hs', hr'⟩ := hreg'
        obtain ⟨_, hcells', _⟩ := hr' _ hi
        obtain ⟨hlen', hget'⟩ := hcells' _ hk
        have hsame := hρ _ _ hl
        refine cut_Is (Cells.of_get (by simp; omega) fun j c v hc hv => ?_) (by omega) h1
        rw [List.getElem?_take] at hc
        split at hc
        · rename_i hj
          rw [List.getElem?_drop] at hc
          obtain ⟨u, hu, hI⟩ := hget' (p.f + j) c hc
          simp [hj] at hv
          rw [hsame.blk, hsame.base, hsame.sz, hs', show ρ.base p.r p.i + (p.k * sz + p.f) + j = ρ.base p.r p.i + (p.k * sz + (p.f + j)) by omega, hu] at hv
          rw [← hv]; exact hI
        · cases hc
    · exact h.elim
  · exact h.elim

theorem loadVC_false {γ : Bool} {t : TypeId} {p : AA} {K : AV → Prop} (h : loadVC P S γ t p K) : ∃ v, K v := by
  unfold loadVC at h
  split at h
  · split at h
    · exact ⟨_, h.2⟩
    · exact ⟨_, h.2.2⟩
    · exact h.elim
  · exact h.elim
end

end Go.Eng

namespace Go.Eng

theorem setG_get : ∀ (l : List Rg) (n : Nat) (g : Rg) (m : Nat), (setG l n g)[m]? = if m = n then (if n < l.length then some g else none) else l[m]?
  | [], n, g, m => by simp [setG]
  | x :: r, 0, g, 0 => by simp [setG]
  | x :: r, 0, g, m + 1 => by simp [setG]
  | x :: r, n + 1, g, 0 => by simp [setG]
  | x :: r, n + 1, g, m + 1 => by simp [setG, setG_get r n g m]
theorem findO_setO : ∀ (l : List (RId × Rg)) (y : RId) (g : Rg) (x : RId), findO (setO l y g) x = if x = y then some g else findO l x
  | [], y, g, x => by simp [setO, findO, eq_comm]
  | (z, h) :: r, y, g, x => by
    simp only [setO]
    by_cases hz : z = y
    · subst hz
      simp only [if_true, findO]
      by_cases hx : z = x
      · subst hx; simp
      · simp [hx, Ne.symm hx]
    · rw [if_neg hz]
      simp only [findO, findO_setO r y g x]
      by_cases hx : z = x
      · subst hx; simp [hz]
      · simp [hx]

/-- a region that is there, written -/
theorem look_setRg {S : St} {x : RId} {g g0 : Rg} (h : S.look x = some g0) (y : RId) : (S.setRg x g).look y = if y = x then some g else S.look y := by
  cases x with
  | nil => cases h
  | loc n =>
    have hn : n < S.loc.length := by
      simp only [St.look] at h
      exact (List.getElem?_eq_some_iff.1 h).1
    cases y with
    | loc m => simp [St.look, St.setRg, setG_get, hn]
    | out z => simp [St.look, St.setRg]
    | nil => simp [St.look]
  | out z =>
    cases y with
    | loc m => simp [St.look, St.setRg]
    | out u =>
      simp only [St.look, St.setRg, findO_setO, RId.out.injEq]
      by_cases e : u = z
      · simp [e]
      · simp [e]
    | nil => simp [St.look]

section
variable {P : Program} {W : Nat → Prop} {w0 : World} {ρ0 : Env} {S : St} {a : Act} {w : World}

/-- A REGION WRITTEN: the world differs at one block, that of a member of the region, which we may write. -/
theorem Mt_write (hm : Mt W w0 ρ0 S a w) {x : RId} {g0 g : Rg} {i0 : Nat} (hx : S.look x = some g0) (ho : g0.own = true) (hh : g0.has i0) {w' : World}
    (hsame : ∀ b, b ≠ ρ0.blk x i0 → w'.heap[b]? = w.heap[b]?) (hsize : w'.heap.size = w.heap.size) (hos : w'.os = w.os) (htape : w'.tape = w.tape) (hout : w'.output = w.output)
    (hown : g.own = true → g0.own = true) (hhas : ∀ i, g.has i → g0.has i)
    (hok : ∀ ρ, Agree S.look ρ0 ρ → RegOk ρ x w g0 → (∀ b, b ≠ ρ.blk x i0 → w'.heap[b]? = w.heap[b]?) → (∀ i, g0.has i → i ≠ i0 → ρ.blk x i ≠ ρ.blk x i0) → RegOk ρ x w' g) :
    Mt W w0 ρ0 (S.setRg x g) a w' := by
  intro ρ hρ
  have hag : Agree S.look ρ0 ρ := by
    intro y g' hy
    by_cases e : y = x
    · subst e; exact hρ y g (by rw [look_setRg hx, if_pos rfl])
    · exact hρ y g' (by rw [look_setRg hx, if_neg e]; exact hy)
  have hr := hm ρ hag
  have hbe : ρ.blk x i0 = ρ0.blk x i0 := ((hag x g0 hx).blk i0).symm
  have hsame' : ∀ b, b ≠ ρ.blk x i0 → w'.heap[b]? = w.heap[b]? := fun b hb => hsame b (by rw [← hbe]; exact hb)
  have hmap : ∀ y g', (S.setRg x g).look y = some g' → ∃ g1, S.look y = some g1 ∧ (g'.own = true → g1.own = true) ∧ (∀ i, g'.has i → g1.has i) := by
    intro y g' hy
    rw [look_setRg hx] at hy
    split at hy
    · rename_i e; subst e; obtain rfl := Option.some.inj hy; exact ⟨g0, hx, hown, hhas⟩
    · exact ⟨g', hy, id, fun _ => id⟩
  have ht : (S.setRg x g).tmps = S.tmps := by cases x <;> rfl
  refine ⟨⟨?_, ?_, ?_, ?_⟩, ?_, by rw [ht]; exact hr.size, by rw [ht]; exact hr.tmps, hr.defers⟩
  · intro y g' hy
    rw [look_setRg hx] at hy
    split at hy
    · rename_i e; subst e; obtain rfl := Option.some.inj hy
      exact hok ρ hag (hr.mem.regs _ _ hx) hsame' (fun i hi hne => hr.mem.dis y g0 i y g0 i0 hx ho hi hx hh (.inr hne))
    · rename_i hne
      have hreg := hr.mem.regs y g' hy
      cases g' with
      | box t cs =>
        obtain ⟨h1, vs, h2, h3⟩ := hreg
        refine ⟨h1, vs, ?_, h3⟩
        rw [hsame' _ (fun e => hr.mem.dis x g0 i0 y _ 0 hx ho hh hy rfl (.inl (Ne.symm hne)) e.symm)]; exact h2
      | arr o t s n c l gt =>
        obtain ⟨h1, h2⟩ := hreg
        refine ⟨h1, fun i hi => ⟨(h2 i hi).1, fun k hk => ⟨((h2 i hi).2.1 k hk).1, fun f d hd => ?_⟩, fun ho' hc => ?_⟩⟩
        · obtain ⟨v, e, q⟩ := ((h2 i hi).2.1 k hk).2 f d hd
          refine ⟨v, ?_, q⟩
          have hb : ρ.blk y i ≠ ρ.blk x i0 := fun e => hr.mem.dis x g0 i0 y _ i hx ho hh hy ⟨hi, by have := (h2 i hi).1; omega⟩ (.inl (Ne.symm hne)) e.symm
          rw [World.cell?_of_block (w := w) (hsame' _ hb)]; exact e
        · obtain ⟨e, cur, e2, e3⟩ := (h2 i hi).2.2 ho' hc
          refine ⟨e, cur, ?_, e3⟩
          have hb : ρ.blk y i ≠ ρ.blk x i0 := fun e => hr.mem.dis x g0 i0 y _ i hx ho hh hy ⟨hi, hc⟩ (.inl (Ne.symm hne)) e.symm
          rw [hsame' _ hb]; exact e2
  · intro y g1 i y' g2 i' h1 ho1 hh1 h2 hh2 hne
    obtain ⟨k1, e1, o1, a1⟩ := hmap y g1 h1
    obtain ⟨k2, e2, _, a2⟩ := hmap y' g2 h2
    exact hr.mem.dis y k1 i y' k2 i' e1 (o1 ho1) (a1 i hh1) e2 (a2 i' hh2) hne
  · intro y g' i hy ho' hh'
    obtain ⟨k1, e1, o1, a1⟩ := hmap y g' hy
    exact hr.mem.wr y k1 i e1 (o1 ho') (a1 i hh')
  · intro y g' i hy hh'
    obtain ⟨k1, e1, _, a1⟩ := hmap y g' hy
    rw [hsize]; exact hr.mem.lt y k1 i e1 (a1 i hh')
  · have hf := hr.fr
    have hwr := hr.mem.wr x g0 i0 hx ho hh
    refine ⟨hos.trans hf.os, htape.trans hf.tape, hout.trans hf.output, by rw [hsize]; exact hf.size, fun b hb hw => ?_⟩
    rw [hsame' b (fun e => by subst e; rcases hwr with h | h; exact hw h; omega)]
    exact hf.block b hb hw

theorem AC.oneCell {ρ : Env} {c : AC} {v : Value} (h : c.Is ρ v) : v.oneCell' = true := by
  cases c with
  | sl a l cap => obtain ⟨o, rfl, _⟩ := h; rfl
  | raw r => cases r <;> (obtain rfl := h; rfl)
  | _ => obtain rfl := h; rfl
theorem Cells.oneCell {ρ : Env} : ∀ {cs : List AC} {vs : List Value}, Cells ρ cs vs → ∀ v ∈ vs, v.oneCell' = true
  | [], [], _, v, hv => by simp at hv
  | c :: cs, u :: vs, h, v, hv => by
    rcases List.mem_cons.1 hv with rfl | hv
    · exact AC.oneCell h.1
    · exact Cells.oneCell h.2 v hv
  | [], _ :: _, h, _, _ => h.elim
  | _ :: _, [], h, _, _ => h.elim

/-- the cells of a value -/
theorem AV.cells_Is {ρ : Env} {v : AV} {u : Value} (h : v.Is ρ u) (hn : v.cells.length ≠ 0 ∨ ∃ xs, v = .agg xs) : Cells ρ v.cells u.cells.toList := by
  cases v with
  | c x =>
    have : u.cells = #[u] := by
      have := AC.oneCell (ρ := ρ) (c := x) h
      cases u <;> first | rfl | cases this
    rw [this]; exact ⟨h, trivial⟩
  | agg xs => obtain ⟨vs, rfl, hc⟩ := h; simpa [Value.cells, AV.cells] using hc
  | tup xs => rcases hn with hn | ⟨_, e⟩; exact absurd rfl hn; cases e

theorem run_storeAt {t : TypeId} {ag : Bool} {n : Nat} (h : szP P t = some (ag, n)) (g o : Nat) (ty : TypeId) (cur : Array Value) (u : Value) (hg : w.heap[g]? = some (.cells cur ty (0, 0)))
    (hl : u.cells.size = n) (hfit : o + n ≤ cur.size) (h1 : ∀ v ∈ u.cells.toList, v.oneCell' = true) :
    (Instr.storeAt t (.pointer (some ⟨g, o, none⟩)) u).run P w = .ok () (w.setRow g (cur.toList.take o ++ u.cells.toList ++ cur.toList.drop (o + n)).toArray) := by
  have hs := (run_szP h w).2
  have := run_storeCells_at P g o ty u.cells.toList 0 cur w hg (by simp; omega) h1
  simp [Instr.storeAt, Instr.sureAddr, storeVar, hs, hl]
  simpa [hl] using this

theorem setRow_same (w : World) (g b : Nat) (c : Array Value) (h : b ≠ g) : (w.setRow g c).heap[b]? = w.heap[b]? := setRow_other w g b c h
theorem setRow_size (w : World) (g : Nat) (c : Array Value) : (w.setRow g c).heap.size = w.heap.size := by simp [World.setRow]

theorem Cells.patch {ρ : Env} {cs ds : List AC} {vs us : List Value} (f : Nat) (h : Cells ρ cs vs) (k : Cells ρ ds us) : Cells ρ (Eng.patch cs f ds) (vs.take f ++ us ++ vs.drop (f + us.length)) := by
  unfold Eng.patch
  rw [k.length]
  exact ((h.take f).append k).append (h.drop _)

theorem patch_length (cs ds : List AC) (f : Nat) (h : f + ds.length ≤ cs.length) : (patch cs f ds).length = cs.length := by
  simp [patch]; omega

end
/-! ### regions in plain lists -/
theorem AC.eqv_refl (c : AC) : c.eqv c := by cases c <;> simp [AC.eqv]
theorem eqvl_refl : ∀ cs : List AC, eqvl cs cs
  | [] => trivial
  | c :: cs => ⟨c.eqv_refl, eqvl_refl cs⟩
theorem eqvt_refl : ∀ cs : List (Bool × List AC), eqvt cs cs
  | [] => trivial
  | (_, c) :: cs => ⟨⟨rfl, eqvl_refl c⟩, eqvt_refl cs⟩
theorem AV.eqv_refl (c : AV) : c.eqv c := by
  cases c with
  | c x => exact x.eqv_refl
  | agg xs => exact eqvl_refl xs
  | tup xs => exact eqvt_refl xs
theorem AC.eqv_Is {ρ : Env} {c d : AC} {v : Value} (h : c.eqv d) (k : c.Is ρ v) : d.Is ρ v := by
  cases c <;> cases d <;> first | exact h.elim | skip
  · obtain ⟨rfl, rfl⟩ := h; exact k
  · obtain rfl := h; exact k
  · obtain rfl := h; exact k
  · obtain rfl := h; exact k
  · obtain ⟨rfl, rfl, h⟩ := h
    obtain ⟨o, e, h1, h2⟩ := k
    refine ⟨o, e, h1, fun hc => ?_⟩
    obtain rfl := h.resolve_left (by omega)
    exact h2 hc
  · obtain ⟨rfl, rfl⟩ := h; exact k
  · obtain rfl := h; exact k
theorem eqvl_Is {ρ : Env} : ∀ {cs ds : List AC} {vs : List Value}, eqvl cs ds → Cells ρ cs vs → Cells ρ ds vs
  | [], [], _, _, k => k
  | _ :: _, _ :: _, _ :: _, h, k => ⟨AC.eqv_Is h.1 k.1, eqvl_Is h.2 k.2⟩
  | _ :: _, _ :: _, [], _, k => k.elim
  | [], _ :: _, _, h, _ => h.elim
  | _ :: _, [], _, h, _ => h.elim
theorem eqvt_get : ∀ {xs ys : List (Bool × List AC)}, eqvt xs ys → xs.length = ys.length ∧ ∀ (j : Nat) b ds, ys[j]? = some (b, ds) → ∃ cs, xs[j]? = some (b, cs) ∧ eqvl cs ds
  | [], [], _ => ⟨rfl, fun j b ds h => by simp at h⟩
  | (b, cs) :: r, (b', ds) :: r', h => by
    obtain ⟨h1, h2⟩ := eqvt_get h.2
    refine ⟨by simp [h1], fun j b2 ds2 e => ?_⟩
    cases j with
    | zero =>
      simp at e
      obtain ⟨rfl, rfl⟩ := e
      exact ⟨cs, by simp [h.1.1], h.1.2⟩
    | succ j => simpa using h2 j b2 ds2 (by simpa using e)
  | [], _ :: _, h => h.elim
  | _ :: _, [], h => h.elim
theorem eqvl_one : ∀ {cs : List AC} {d : AC}, eqvl cs [d] → ∃ c, cs = [c] ∧ c.eqv d
  | [c], d, h => ⟨c, rfl, h.1⟩
  | [], _, h => h.elim
  | _ :: _ :: _, _, h => h.2.elim
theorem eqvl_of_one : ∀ {c : AC} {ds : List AC}, eqvl [c] ds → ∃ d, ds = [d] ∧ c.eqv d
  | c, [d], h => ⟨d, rfl, h.1⟩
  | _, [], h => h.elim
  | _, _ :: _ :: _, h => h.2.elim
theorem AV.eqv_Is {ρ : Env} {a b : AV} {v : Value} (h : a.eqv b) (k : a.Is ρ v) : b.Is ρ v := by
  cases a <;> cases b <;> first | exact h.elim | skip
  · exact AC.eqv_Is h k
  · obtain ⟨vs, e, q⟩ := k; exact ⟨vs, e, eqvl_Is h q⟩
  · obtain ⟨vs, e, hl, q⟩ := k
    obtain ⟨h1, h2⟩ := eqvt_get h
    refine ⟨vs, e, by omega, fun j b ds u e1 e2 => ?_⟩
    obtain ⟨cs, e3, e4⟩ := h2 j b ds e1
    have := q j b cs u e3 e2
    cases b
    · simp only [Bool.false_eq_true, if_false] at this ⊢
      obtain ⟨c, rfl, hc⟩ := this
      obtain ⟨d, rfl, hd⟩ := eqvl_of_one e4
      exact ⟨d, rfl, AC.eqv_Is hd hc⟩
    · simp only [if_true] at this ⊢
      obtain ⟨us, e5, hc⟩ := this
      exact ⟨us, e5, eqvl_Is e4 hc⟩

theorem RegOk_le {ρ : Env} {x : RId} {w : World} {g G : Rg} (h : RgLe g G) (k : RegOk ρ x w G) : RegOk ρ x w g := by
  cases g with
  | box t cs =>
    cases G with
    | box t' cs' =>
      obtain ⟨rfl, h⟩ := h
      obtain ⟨k1, vs, k2, k3⟩ := k
      exact ⟨k1, vs, k2, eqvl_Is h k3⟩
    | arr _ _ _ _ _ _ _ => exact h.elim
  | arr o t s m c l g =>
    cases G with
    | box t' cs' => exact h.elim
    | arr o' t' s' m' c' l' g' =>
      obtain ⟨ho, rfl, rfl, hm, hall⟩ := h
      obtain ⟨h1, h2⟩ := k
      refine ⟨h1, fun i hi => ?_⟩
      obtain ⟨ec, hl, hg⟩ := hall i hi
      obtain ⟨q1, q2, q3⟩ := h2 i (Nat.lt_of_lt_of_le hi hm)
      exact ⟨by omega, fun k hk => by rw [hg k hk]; exact q2 k (by omega), fun hoo hc => by rw [ec] at hc ⊢; exact q3 (ho hoo) hc⟩
theorem RgLe_own {g G : Rg} (h : RgLe g G) (k : g.own = true) : G.own = true := by
  cases g <;> cases G <;> first | exact h.elim | exact k | exact h.1 k
theorem RgLe_has {g G : Rg} (h : RgLe g G) {i : Nat} (k : g.has i) : G.has i := by
  cases g with
  | box t cs => cases G <;> first | exact h.elim | exact k
  | arr o t s m c l g =>
    cases G with
    | box t' cs' => exact h.elim
    | arr o' t' s' m' c' l' g' =>
      obtain ⟨ho, rfl, rfl, hm, hall⟩ := h
      exact ⟨Nat.lt_of_lt_of_le k.1 hm, by have := (hall i k.1).1; have := k.2; omega⟩
theorem RgLe_refl (g : Rg) : RgLe g g := by
  cases g with
  | box t cs => exact ⟨rfl, eqvl_refl cs⟩
  | arr o t s m c l g => exact ⟨id, rfl, rfl, Nat.le_refl _, fun i _ => ⟨rfl, Nat.le_refl _, fun _ _ => rfl⟩⟩


theorem win_length (f : Nat → List AC) (n : Nat) : (win f n).length = n := by simp [win]
theorem win_get (f : Nat → List AC) {n k : Nat} (h : k < n) : (win f n).getD k [] = f k := by
  simp [win, List.getD_eq_getElem?_getD, h]
theorem RgLe_tidy (g : Rg) : RgLe (tidy g) g := by
  cases g with
  | box t cs => exact RgLe_refl _
  | arr o t s n c l g =>
    have hg : ∀ i, i < n → ((List.range n).map fun i => (c i, win (g i) (l i))).getD i (0, []) = (c i, win (g i) (l i)) := by
      intro i hi
      rw [List.getD_eq_getElem?_getD, List.getElem?_map, List.getElem?_range hi]
      rfl
    refine ⟨id, rfl, rfl, by simp, fun i hi => ?_⟩
    have hi : i < n := by simpa using hi
    refine ⟨by simp only [hg i hi], by simp only [hg i hi, win_length]; exact Nat.le_refl _, fun k hk => ?_⟩
    simp only [hg i hi, win_length] at hk
    simp only [hg i hi, win_get _ hk]

section
variable {W : Nat → Prop} {w0 : World} {ρ0 : Env} {S S' : St} {a : Act} {w : World}
/-- the same memory, told with less -/
theorem Mt_look (ht : S'.tmps = S.tmps) (h1 : ∀ x g, S'.look x = some g → ∃ G, S.look x = some G ∧ RgLe g G) (h2 : ∀ x G, S.look x = some G → ∃ g, S'.look x = some g) (hm : Mt W w0 ρ0 S a w) : Mt W w0 ρ0 S' a w := by
  intro ρ hρ
  have R := hm ρ fun x G e => by
    obtain ⟨g, hg⟩ := h2 x G e
    exact hρ x g hg
  refine ⟨⟨fun x g e => ?_, fun x g i x' g' i' e ho hh e' hh' hne => ?_, fun x g i e ho hh => ?_, fun x g i e hh => ?_⟩, R.fr, by rw [ht]; exact R.size, by rw [ht]; exact R.tmps, R.defers⟩
  · obtain ⟨G, e1, e2⟩ := h1 x g e
    exact RegOk_le e2 (R.mem.regs _ _ e1)
  · obtain ⟨G, e1, e2⟩ := h1 x g e
    obtain ⟨G', e1', e2'⟩ := h1 x' g' e'
    exact R.mem.dis x G i x' G' i' e1 (RgLe_own e2 ho) (RgLe_has e2 hh) e1' (RgLe_has e2' hh') hne
  · obtain ⟨G, e1, e2⟩ := h1 x g e
    exact R.mem.wr _ _ _ e1 (RgLe_own e2 ho) (RgLe_has e2 hh)
  · obtain ⟨G, e1, e2⟩ := h1 x g e
    exact R.mem.lt _ _ _ e1 (RgLe_has e2 hh)
theorem setRg_tmps (S : St) (x : RId) (g : Rg) : (S.setRg x g).tmps = S.tmps := by cases x <;> rfl
theorem Mt_setRg {x : RId} {g0 g G : Rg} (hx : S.look x = some g0) (h : RgLe g G) (hm : Mt W w0 ρ0 (S.setRg x G) a w) : Mt W w0 ρ0 (S.setRg x g) a w := by
  refine Mt_look (by rw [setRg_tmps, setRg_tmps]) (fun y g' e => ?_) (fun y G' e => ?_) hm
  · rw [look_setRg hx] at e ⊢
    by_cases hy : y = x
    · rw [if_pos hy] at e ⊢
      obtain rfl := Option.some.inj e; exact ⟨G, rfl, h⟩
    · rw [if_neg hy] at e ⊢; exact ⟨g', e, RgLe_refl _⟩
  · rw [look_setRg hx] at e ⊢
    by_cases hy : y = x
    · rw [if_pos hy] at e ⊢; exact ⟨g, rfl⟩
    · rw [if_neg hy] at e ⊢; exact ⟨G', e⟩
theorem Mt_allocLe {g G : Rg} (h : RgLe g G) (hm : Mt W w0 ρ0 (S.alloc G) a w) : Mt W w0 ρ0 (S.alloc g) a w := by
  refine Mt_look (S := S.alloc G) rfl (fun y g' e => ?_) (fun y G' e => ?_) hm
  · rw [look_alloc] at e ⊢
    by_cases hy : y = .loc S.loc.length
    · rw [if_pos hy] at e ⊢
      obtain rfl := Option.some.inj e; exact ⟨G, rfl, h⟩
    · rw [if_neg hy] at e ⊢; exact ⟨g', e, RgLe_refl _⟩
  · rw [look_alloc] at e ⊢
    by_cases hy : y = .loc S.loc.length
    · rw [if_pos hy] at e ⊢; exact ⟨g, rfl⟩
    · rw [if_neg hy] at e ⊢; exact ⟨G', e⟩
end
/-- one member -/
theorem RgLe_one {o : Bool} {t s c n : Nat} {L : List (List AC)} {g : Nat → List AC} (hn : L.length ≤ n) (h : ∀ k, k < L.length → L.getD k [] = g k) : RgLe (.rows o t s [(c, L)]) (.arr o t s 1 (fun _ => c) (fun _ => n) fun _ k => g k) := by
  refine ⟨id, rfl, rfl, Nat.le_refl _, fun i hi => ?_⟩
  obtain rfl : i = 0 := by simpa using hi
  exact ⟨rfl, hn, fun k hk => h k hk⟩

end Go.Eng

namespace Go.Eng

theorem seg_get {α : Type} (l us : List α) (o : Nat) (h : o + us.length ≤ l.length) (j : Nat) :
    (l.take o ++ us ++ l.drop (o + us.length))[j]? = if o ≤ j ∧ j < o + us.length then us[j - o]? else l[j]? := by
  by_cases h1 : j < o
  · rw [if_neg (by omega), List.append_assoc, List.getElem?_append_left (by simp; omega), List.getElem?_take, if_pos h1]
  · by_cases h2 : j < o + us.length
    · rw [if_pos (by omega), List.getElem?_append_left (by simp; omega), List.getElem?_append_right (by simp; omega)]
      congr 1; simp; omega
    · rw [if_neg (by omega), List.getElem?_append_right (by simp; omega), List.getElem?_drop]
      congr 1; simp; omega

section
variable {P : Program} {W : Nat → Prop} {w0 : World} {ρ0 : Env} {S : St} {a : Act} {w : World}

theorem cell?_setRow_same {g : Nat} {cur new : Array Value} {ty : TypeId} {fr : Nat × Nat} (h : w.heap[g]? = some (.cells cur ty fr)) (o : Nat) : (w.setRow g new).cell? ⟨g, o, none⟩ = new[o]? := by
  simp [World.cell?, setRow_heap w g cur new ty fr h]

theorem store_sound {t : TypeId} {p : AA} {v : AV} {u : Value} {K : St → Prop} (hm : Mt W w0 ρ0 S a w) (h : storeVC P S t p v K) (hv : ∀ ρ, Agree S.look ρ0 ρ → v.Is ρ u) :
    ∃ w' S', K S' ∧ (Instr.storeAt t (.pointer (some (p.conc ρ0))) u).run P w = .ok () w' ∧ Mt W w0 ρ0 S' a w' := by
  unfold storeVC at h
  split at h
  · rename_i ag n hsz
    obtain ⟨⟨hvn, hn0⟩, h⟩ := h
    have h0 := hm ρ0 (Agree.refl _ _)
    have hcu : ∀ ρ, Agree S.look ρ0 ρ → Cells ρ v.cells u.cells.toList := fun ρ hρ => AV.cells_Is (hv ρ hρ) (.inl (by omega))
    have hul : u.cells.toList.length = n := by rw [(hcu ρ0 (Agree.refl _ _)).length, hvn]
    have hone := (hcu ρ0 (Agree.refl _ _)).oneCell
    split at h
    · rename_i ty cs hl
      obtain ⟨⟨hk, hi, hf⟩, hK⟩ := h
      obtain ⟨hb, vs, hh, hcs⟩ := h0.mem.regs _ _ hl
      have hlen := hcs.length
      have hrun := run_storeAt (P := P) (w := w) hsz (ρ0.blk p.r 0) p.f ty vs.toArray u hh (by simpa using hul) (by simp; omega) hone
      refine ⟨w.setRow (ρ0.blk p.r 0) (vs.take p.f ++ u.cells.toList ++ vs.drop (p.f + n)).toArray, _, hK, ?_, Mt_write hm (i0 := 0) hl rfl rfl (fun b hb => setRow_same w _ b _ hb) (setRow_size _ _ _) rfl rfl rfl id (fun _ => id) ?_⟩
      · rw [conc_eq, hk, hi, hb]
        simpa using hrun
      · intro ρ hρ hreg _ _
        obtain ⟨hb', vs', hh', hcs'⟩ := hreg
        have hsame := hρ _ _ hl
        rw [← hsame.blk 0] at hh'
        rw [hh] at hh'
        obtain rfl : vs = vs' := by simpa using hh'
        refine ⟨hb', _, ?_, hcs'.patch p.f (hcu ρ hρ)⟩
        rw [← hsame.blk 0, setRow_heap w _ _ _ ty (0, 0) hh, hul]
    · rename_i own ty sz cnt cap len get hl
      obtain ⟨⟨ho, hi, hk, hf⟩, hK⟩ := h
      subst ho
      have hreg := h0.mem.regs _ _ hl
      obtain ⟨hs0, hr⟩ := hreg
      obtain ⟨hlc, hcells, hown⟩ := hr _ hi
      have hcap : 0 < cap p.i := by omega
      obtain ⟨hb, cur, hh, hcs⟩ := hown rfl hcap
      have hoff : p.k * sz + p.f + n ≤ cur.size := by
        rw [hcs]
        have : (p.k + 1) * sz ≤ cap p.i * sz := Nat.mul_le_mul_right _ (by omega)
        rw [Nat.add_mul] at this
        omega
      have hrun := run_storeAt (P := P) (w := w) hsz (ρ0.blk p.r p.i) (p.k * sz + p.f) ty cur u hh (by simpa using hul) hoff hone
      refine ⟨w.setRow (ρ0.blk p.r p.i) (cur.toList.take (p.k * sz + p.f) ++ u.cells.toList ++ cur.toList.drop (p.k * sz + p.f + n)).toArray, _, hK, ?_, Mt_setRg hl (RgLe_tidy _) (Mt_write hm (i0 := p.i) hl rfl ⟨hi, hcap⟩ (fun b hb => setRow_same w _ b _ hb) (setRow_size _ _ _) rfl rfl rfl id (fun _ => id) ?_)⟩
      · rw [conc_eq, hs0, hb, Nat.zero_add]
        exact hrun
      · intro ρ hρ hreg hsm hdis
        have hsame := hρ _ _ hl
        obtain ⟨hs1, hr1⟩ := hreg
        have hrow : ∀ o, (w.setRow (ρ0.blk p.r p.i) (cur.toList.take (p.k * sz + p.f) ++ u.cells.toList ++ cur.toList.drop (p.k * sz + p.f + n)).toArray).cell? ⟨ρ.blk p.r p.i, o, none⟩ =
            if p.k * sz + p.f ≤ o ∧ o < p.k * sz + p.f + n then u.cells.toList[o - (p.k * sz + p.f)]? else w.cell? ⟨ρ.blk p.r p.i, o, none⟩ := by
          intro o
          rw [← hsame.blk, cell?_setRow_same hh]
          have := seg_get cur.toList u.cells.toList (p.k * sz + p.f) (by rw [hul]; simpa using hoff) o
          rw [hul] at this
          simp only [List.getElem?_toArray, this]
          split
          · rfl
          · simp [World.cell?, hh]
        refine ⟨hs1, fun i hi' => ⟨(hr1 i hi').1, fun k hk' => ?_, fun _ hc => ?_⟩⟩
        · obtain ⟨hl1, hg1⟩ := (hr1 i hi').2.1 k hk'
          by_cases hik : i = p.i ∧ k = p.k
          · obtain ⟨rfl, rfl⟩ := hik
            have hgg : (fun i k => if i = p.i ∧ k = p.k then (patch (get p.i p.k) p.f v.cells).take sz else get i k) p.i p.k = patch (get p.i p.k) p.f v.cells :=
              (if_pos ⟨rfl, rfl⟩).trans (List.take_of_length_le (by rw [patch_length _ _ _ (by rw [hl1]; omega), hl1]; exact Nat.le_refl _))
            rw [hgg]
            refine ⟨by rw [patch_length _ _ _ (by rw [hl1]; omega)]; exact hl1, fun f c hc => ?_⟩
            have hb1 : ρ.base p.r p.i = 0 := by rw [← hsame.base]; exact hb
            rw [hb1, Nat.zero_add, hrow]
            have hp := seg_get (get p.i p.k) v.cells p.f (by rw [hl1]; omega) f
            unfold Eng.patch at hc
            rw [hp] at hc
            by_cases hff : p.f ≤ f ∧ f < p.f + v.cells.length
            · rw [if_pos hff] at hc
              obtain ⟨x, hx, hI⟩ := (hcu ρ hρ).get _ _ hc
              rw [if_pos (by omega)]
              exact ⟨x, by rw [show p.k * sz + f - (p.k * sz + p.f) = f - p.f by omega]; exact hx, hI⟩
            · rw [if_neg hff] at hc
              obtain ⟨x, hx, hI⟩ := hg1 f c hc
              have hfl := (List.getElem?_eq_some_iff.1 hc).1
              rw [if_neg (by omega)]
              exact ⟨x, by rw [hb1, Nat.zero_add] at hx; exact hx, hI⟩
          · have hgg : (fun i k => if i = p.i ∧ k = p.k then (patch (get p.i p.k) p.f v.cells).take sz else get i k) i k = get i k := if_neg hik
            rw [hgg]
            refine ⟨hl1, fun f c hc => ?_⟩
            obtain ⟨x, hx, hI⟩ := hg1 f c hc
            refine ⟨x, ?_, hI⟩
            have hfl := (List.getElem?_eq_some_iff.1 hc).1
            by_cases hi2 : i = p.i
            · subst hi2
              have hkne : k ≠ p.k := fun e => hik ⟨rfl, e⟩
              have hb1 : ρ.base p.r p.i = 0 := by rw [← hsame.base]; exact hb
              rw [hb1, Nat.zero_add, hrow, if_neg]
              · rw [hb1, Nat.zero_add] at hx; exact hx
              · rintro ⟨e1, e2⟩
                rcases Nat.lt_or_gt_of_ne hkne with hlt | hgt
                · have : (k + 1) * sz ≤ p.k * sz := Nat.mul_le_mul_right _ (by omega)
                  rw [Nat.add_mul] at this
                  omega
                · have : (p.k + 1) * sz ≤ k * sz := Nat.mul_le_mul_right _ (by omega)
                  rw [Nat.add_mul] at this
                  omega
            · have hne : ρ.blk p.r i ≠ ρ.blk p.r p.i := hdis i ⟨hi', by have := (hr1 i hi').1; omega⟩ hi2
              rw [World.cell?_of_block (w := w) (hsm _ hne)]; exact hx
        · obtain ⟨e, cur', e2, e3⟩ := (hr1 i hi').2.2 rfl hc
          by_cases hi2 : i = p.i
          · subst hi2
            refine ⟨e, _, by rw [← hsame.blk]; exact setRow_heap w _ _ _ ty (0, 0) hh, ?_⟩
            simp only [List.size_toArray, List.length_append, List.length_take, List.length_drop, hul, Array.length_toList]
            omega
          · have hne : ρ.blk p.r i ≠ ρ.blk p.r p.i := hdis i ⟨hi', hc⟩ hi2
            exact ⟨e, cur', by rw [hsm _ hne]; exact e2, e3⟩
    · exact h.elim
  · exact h.elim
end
end Go.Eng

namespace Go.Eng

def flat (f : Nat → List AC) : Nat → List AC
  | 0 => []
  | m + 1 => flat f m ++ f m

theorem flat_length {f : Nat → List AC} {sz : Nat} : ∀ {m : Nat}, (∀ k, k < m → (f k).length = sz) → (flat f m).length = m * sz
  | 0, _ => by simp [flat]
  | m + 1, h => by rw [flat, List.length_append, flat_length fun k hk => h k (by omega), h m (by omega), Nat.add_mul, Nat.one_mul]

theorem flat_get {f : Nat → List AC} {sz : Nat} : ∀ {m : Nat}, (∀ k, k < m → (f k).length = sz) → ∀ (k j : Nat), k < m → j < sz → (flat f m)[k * sz + j]? = (f k)[j]?
  | 0, _, _, _, hk, _ => absurd hk (by omega)
  | m + 1, h, k, j, hk, hj => by
    have hl := flat_length (f := f) (m := m) fun k hk => h k (by omega)
    rw [flat]
    by_cases e : k = m
    · subst e
      rw [List.getElem?_append_right (by omega)]
      congr 1; omega
    · have hkm : k < m := by omega
      have : (k + 1) * sz ≤ m * sz := Nat.mul_le_mul_right _ (by omega)
      rw [Nat.add_mul] at this
      rw [List.getElem?_append_left (by omega)]
      exact flat_get (fun k hk => h k (by omega)) k j hkm hj

theorem divmod (sz j m : Nat) (h : j < m * sz) : ∃ k f, k < m ∧ f < sz ∧ j = k * sz + f := by
  have hsz : 0 < sz := by
    rcases Nat.eq_zero_or_pos sz with e | e
    · subst e; simp at h
    · exact e
  refine ⟨j / sz, j % sz, (Nat.div_lt_iff_lt_mul hsz).2 h, Nat.mod_lt _ hsz, ?_⟩
  have := Nat.div_add_mod j sz
  rw [Nat.mul_comm] at this
  omega

section
variable {P : Program} {W : Nat → Prop} {w0 : World} {ρ0 : Env} {S : St} {a : Act} {w : World}

/-- a window of elements, read -/
theorem read_row (hm : Mt W w0 ρ0 S a w) {p : AA} {own : Bool} {ty sz cnt : Nat} {cap len : Nat → Nat} {get : Nat → Nat → List AC} {n : Nat}
    (hl : S.look p.r = some (.arr own ty sz cnt cap len get)) (hi : p.i < cnt) (hf : p.f = 0) (hn : p.k + n ≤ len p.i) :
    (∀ k, k < n → (get p.i (p.k + k)).length = sz) ∧ ∃ vs : List Value, vs.length = n * sz ∧ (∀ j v, vs[j]? = some v → w.cell? ((p.conc ρ0).add j) = some v) ∧
      ∀ ρ, Agree S.look ρ0 ρ → Cells ρ (flat (fun k => get p.i (p.k + k)) n) vs := by
  have h0 := hm ρ0 (Agree.refl _ _)
  obtain ⟨hs0, hr⟩ := h0.mem.regs _ _ hl
  obtain ⟨_, hcells, _⟩ := hr _ hi
  have hlen : ∀ k, k < n → (get p.i (p.k + k)).length = sz := fun k hk => (hcells (p.k + k) (by omega)).1
  refine ⟨hlen, (List.range (n * sz)).map fun j => (w.cell? ((p.conc ρ0).add j)).getD undef, by simp, fun j v hj => ?_, fun ρ hρ => ?_⟩
  · have hjl : j < n * sz := by have := (List.getElem?_eq_some_iff.1 hj).1; simpa using this
    obtain ⟨k, f, hk, hff, rfl⟩ := divmod sz j n hjl
    obtain ⟨x, hx, _⟩ := (hcells (p.k + k) (by omega)).2 f _ (List.getElem?_eq_getElem (by rw [hlen k hk]; exact hff))
    have e : (p.conc ρ0).add (k * sz + f) = ⟨ρ0.blk p.r p.i, ρ0.base p.r p.i + ((p.k + k) * sz + f), none⟩ := by
      rw [conc_eq, Addr.add_lit, hf, hs0, Nat.add_mul]; congr 1; omega
    simp [hjl, e, hx] at hj
    rw [e, hx, hj]
  · have hfl := flat_length (f := fun k => get p.i (p.k + k)) (m := n) hlen
    refine Cells.of_get (by simp [hfl]) fun j c v hc hv => ?_
    have hjl : j < n * sz := by have := (List.getElem?_eq_some_iff.1 hc).1; rwa [hfl] at this
    obtain ⟨k, f, hk, hff, rfl⟩ := divmod sz j n hjl
    rw [flat_get hlen k f hk hff] at hc
    obtain ⟨hs1, hr1⟩ := (hm ρ hρ).mem.regs _ _ hl
    obtain ⟨x, hx, hI⟩ := ((hr1 _ hi).2.1 (p.k + k) (by omega)).2 f c hc
    have hsame := hρ _ _ hl
    have e : (p.conc ρ0).add (k * sz + f) = ⟨ρ.blk p.r p.i, ρ.base p.r p.i + ((p.k + k) * sz + f), none⟩ := by
      rw [conc_eq, Addr.add_lit, hf, hs0, Nat.add_mul, hsame.blk, hsame.base]; congr 1; omega
    simp [hjl, e, hx] at hv
    rw [← hv]; exact hI

theorem run_append_room' (t ty e : TypeId) (i : TypeInfo) (ht : P.underlying t = some (.slice e)) (hi : P.info? e = some i)
    (g o sLen sCap : Nat) (cur : Array Value) (tt : TypeId) (hg : w.heap[g]? = some (.cells cur tt (0, 0)))
    (xo : Option Addr) (m c : Nat) (news : List Value) (hl : news.length = m * i.size) (hx : ∀ b, xo = some b → ∀ j u, news[j]? = some u → w.cell? (b.add j) = some u) (hx0 : xo = none → news = []) (h1 : ∀ u ∈ news, u.oneCell' = true)
    (hroom : sLen + m ≤ sCap) (hfit : o + sLen * i.size + news.length ≤ cur.size) :
    (Builtin.append_ #[t, t] ty #[.slice (some ⟨g, o, none⟩) sLen sCap, .slice xo m c]).run P w =
      .ok (.slice (some ⟨g, o, none⟩) (sLen + m) sCap) (w.setRow g (cur.toList.take (o + sLen * i.size) ++ news ++ cur.toList.drop (o + sLen * i.size + news.length)).toArray) := by
  have hf : (Builtin.firstCells i.size m (.slice xo m c)).run P w = .ok news.toArray w := by
    cases xo with
    | none => rw [run_firstCells_none, hx0 rfl]
    | some b => exact run_firstCells_some (P := P) w i.size m b m c news hl (hx b rfl)
  have hst := run_storeCells_at P g (o + sLen * i.size) tt news 0 cur w hg (by simpa using hfit) h1
  simp only [Nat.add_zero] at hst
  simp [Builtin.append_, run_underlying ht, sizeOf, typeInfo, hi, Builtin.lenOf, hroom, hf, Addr.add_lit, hst]

theorem flat_append {f h : Nat → List AC} : ∀ (n m : Nat), flat (fun k => if k < n then f k else h (k - n)) (n + m) = flat f n ++ flat h m
  | n, 0 => by
    rw [Nat.add_zero, flat, List.append_nil]
    have : ∀ j, j ≤ n → flat (fun k => if k < n then f k else h (k - n)) j = flat f j := by
      intro j
      induction j with
      | zero => intro _; rfl
      | succ j ih => intro hj; rw [flat, flat, ih (by omega), if_pos (by omega)]
    exact this n (Nat.le_refl _)
  | n, m + 1 => by
    rw [show n + (m + 1) = (n + m) + 1 by omega, flat, flat_append n m, if_neg (by omega), flat, List.append_assoc]
    congr 3; omega

/-- a new row: its cells known to begin with these -/
theorem RegOk_row {ρ : Env} {x : RId} {w : World} {g : Nat} {e sz c n : Nat} {get : Nat → List AC} {cur : Array Value} {own : Bool} {fr : Nat × Nat}
    (hg : w.heap[g]? = some (.cells cur e fr)) (hfr : own = true → fr = (0, 0)) (hb : ρ.blk x 0 = g) (hbase : ρ.base x 0 = 0) (hs : ρ.sz x = sz) (hc : cur.size = c * sz) (hn : n ≤ c)
    (hlen : ∀ k, k < n → (get k).length = sz) {vs : List Value} (hvs : cur.toList.take vs.length = vs) (hcells : Cells ρ (flat get n) vs) :
    RegOk ρ x w (.arr own e sz 1 (fun _ => c) (fun _ => n) fun _ k => get k) := by
  refine ⟨hs, fun i hi => ?_⟩
  obtain rfl : i = 0 := by omega
  refine ⟨hn, fun k hk => ⟨hlen k hk, fun f d hd => ?_⟩, fun ho _ => ⟨hbase, cur, by rw [hb, hg, hfr ho], hc⟩⟩
  have hf : f < sz := by have := (List.getElem?_eq_some_iff.1 hd).1; rwa [hlen k hk] at this
  obtain ⟨v, hv, hI⟩ := hcells.get (k * sz + f) d (by rw [flat_get hlen k f hk hf]; exact hd)
  refine ⟨v, ?_, hI⟩
  rw [hbase, Nat.zero_add, hb]
  simp only [World.cell?, hg, Option.isSome_none, Bool.false_eq_true, if_false]
  rw [← hvs, List.getElem?_take] at hv
  split at hv
  · simpa using hv
  · cases hv

theorem grownCap_lt (w : World) (need old : Nat) (e : TypeId) (h : need ≤ 9223372036854775807) : grownCap w need old e ≤ 9223372036854775807 := by
  have := grownCap_le_maxLen w need old e (by unfold maxLen; omega)
  unfold maxLen at this; omega

/-- ELEMENTS n .. n + m OF A ROW, written. -/
theorem Mt_writeRow {p : AA} {n m sz : Nat} {news : Nat → List AC} (hm : Mt W w0 ρ0 S a w) {ty' cnt : Nat} {cp len : Nat → Nat} {get : Nat → Nat → List AC} (hl : S.look p.r = some (.arr true ty' sz cnt cp len get))
    (hm0 : 0 < m) (hpi : p.i < cnt) (hlen0 : p.k + n ≤ len p.i) (hcp : p.k + n + m ≤ cp p.i) {nv : List Value} (hnl : nv.length = m * sz) (hlen : ∀ k, k < m → (news k).length = sz) (hnc : ∀ ρ, Agree S.look ρ0 ρ → Cells ρ (flat news m) nv) :
    ∃ cur, w.heap[ρ0.blk p.r p.i]? = some (.cells cur ty' (0, 0)) ∧ ρ0.base p.r p.i = 0 ∧ p.k * sz + n * sz + nv.length ≤ cur.size ∧
      Mt W w0 ρ0 (S.setRg p.r (tidy (.arr true ty' sz cnt cp (fun i => if i = p.i then max (len i) (p.k + n + m) else len i) fun i k => if i = p.i ∧ p.k + n ≤ k ∧ k < p.k + n + m then nth news (k - (p.k + n)) else get i k))) a
        (w.setRow (ρ0.blk p.r p.i) (cur.toList.take (p.k * sz + n * sz) ++ nv ++ cur.toList.drop (p.k * sz + n * sz + nv.length)).toArray) := by
  have h0 := hm ρ0 (Agree.refl _ _)
  obtain ⟨hs0, hr⟩ := h0.mem.regs _ _ hl
  obtain ⟨hlc, hcells, hown⟩ := hr _ hpi
  have hcpos : 0 < cp p.i := by omega
  obtain ⟨hb, cur, hh, hcs⟩ := hown rfl hcpos
  have hoff : p.k * sz + n * sz + nv.length ≤ cur.size := by
    rw [hcs, hnl, ← Nat.add_mul, ← Nat.add_mul]
    exact Nat.mul_le_mul_right _ (by omega)
  refine ⟨cur, hh, hb, hoff, Mt_setRg hl (RgLe_tidy _) (Mt_write hm (i0 := p.i) hl rfl ⟨hpi, hcpos⟩ (fun b hb => setRow_same w _ b _ hb) (setRow_size _ _ _) rfl rfl rfl id (fun _ => id) ?_)⟩
  intro ρ hρ hreg hsm hdis
  have hsame := hρ _ _ hl
  obtain ⟨hs1, hr1⟩ := hreg
  have hrow : ∀ q, (w.setRow (ρ0.blk p.r p.i) (cur.toList.take (p.k * sz + n * sz) ++ nv ++ cur.toList.drop (p.k * sz + n * sz + nv.length)).toArray).cell? ⟨ρ.blk p.r p.i, q, none⟩ =
      if p.k * sz + n * sz ≤ q ∧ q < p.k * sz + n * sz + nv.length then nv[q - (p.k * sz + n * sz)]? else w.cell? ⟨ρ.blk p.r p.i, q, none⟩ := by
    intro q
    rw [← hsame.blk, cell?_setRow_same hh]
    have := seg_get cur.toList nv (p.k * sz + n * sz) (by simpa using hoff) q
    simp only [List.getElem?_toArray, this]
    split
    · rfl
    · simp [World.cell?, hh]
  have hb1 : ρ.base p.r p.i = 0 := by rw [← hsame.base]; exact hb
  refine ⟨hs1, fun i hi2 => ⟨?_, fun k hk => ?_, fun _ hc => ?_⟩⟩
  · have := (hr1 i hi2).1
    by_cases e2 : i = p.i
    · subst e2; simp; omega
    · simp [e2, this]
  · by_cases hin : i = p.i ∧ p.k + n ≤ k ∧ k < p.k + n + m
    · obtain ⟨rfl, h1, h2⟩ := hin
      have hgg : (fun i k => if i = p.i ∧ p.k + n ≤ k ∧ k < p.k + n + m then nth news (k - (p.k + n)) else get i k) p.i k = news (k - (p.k + n)) := if_pos ⟨rfl, h1, h2⟩
      rw [hgg]
      have hkm : k - (p.k + n) < m := by omega
      refine ⟨hlen _ hkm, fun f d hd => ?_⟩
      have hff : f < sz := by have := (List.getElem?_eq_some_iff.1 hd).1; rwa [hlen _ hkm] at this
      obtain ⟨x, hx, hI⟩ := (hnc ρ hρ).get ((k - (p.k + n)) * sz + f) d (by rw [flat_get hlen _ f hkm hff]; exact hd)
      refine ⟨x, ?_, hI⟩
      have hxl := (List.getElem?_eq_some_iff.1 hx).1
      have e1 : k * sz = (p.k + n) * sz + (k - (p.k + n)) * sz := by rw [← Nat.add_mul]; congr 1; omega
      rw [Nat.add_mul] at e1
      rw [hb1, Nat.zero_add, hrow, if_pos (by omega), ← hx]
      congr 1; omega
    · have hgg : (fun i k => if i = p.i ∧ p.k + n ≤ k ∧ k < p.k + n + m then nth news (k - (p.k + n)) else get i k) i k = get i k := if_neg hin
      rw [hgg]
      have hk1 : k < len i := by
        by_cases e2 : i = p.i
        · subst e2; simp at hk; omega
        · simpa [e2] using hk
      obtain ⟨hl1, hg1⟩ := (hr1 i hi2).2.1 k hk1
      refine ⟨hl1, fun f d hd => ?_⟩
      obtain ⟨x, hx, hI⟩ := hg1 f d hd
      refine ⟨x, ?_, hI⟩
      have hff := (List.getElem?_eq_some_iff.1 hd).1
      by_cases e2 : i = p.i
      · subst e2
        rw [hb1, Nat.zero_add] at hx ⊢
        rw [hrow, if_neg]
        · exact hx
        · rintro ⟨h1, h2⟩
          rw [← Nat.add_mul] at h1 h2
          rw [hnl, ← Nat.add_mul] at h2
          rcases Nat.lt_or_ge k (p.k + n) with h3 | h3
          · have : (k + 1) * sz ≤ (p.k + n) * sz := Nat.mul_le_mul_right _ (by omega)
            rw [Nat.add_mul] at this
            omega
          · have : (p.k + n + m) * sz ≤ k * sz := Nat.mul_le_mul_right _ (by have : ¬ k < p.k + n + m := fun h => hin ⟨rfl, h3, h⟩; omega)
            omega
      · have hne : ρ.blk p.r i ≠ ρ.blk p.r p.i := hdis i ⟨hi2, by have := (hr1 i hi2).1; omega⟩ e2
        rw [World.cell?_of_block (w := w) (hsm _ hne)]; exact hx
  · obtain ⟨e3, cur', e4, e5⟩ := (hr1 i hi2).2.2 rfl hc
    by_cases e2 : i = p.i
    · subst e2
      refine ⟨e3, _, by rw [← hsame.blk]; exact setRow_heap w _ _ _ ty' (0, 0) hh, ?_⟩
      simp only [List.size_toArray, List.length_append, List.length_take, List.length_drop, Array.length_toList]
      omega
    · have hne : ρ.blk p.r i ≠ ρ.blk p.r p.i := hdis i ⟨hi2, hc⟩ e2
      exact ⟨e3, cur', by rw [hsm _ hne]; exact e4, e5⟩

/-- what an append's second argument yields -/
structure ApX (P : Program) (t tx : TypeId) (xv : Value) (m : Nat) (nv : List Value) (w : World) : Prop where
  room : ∀ (ty e : TypeId) (i : TypeInfo) (g o sLen sCap : Nat) (cur : Array Value) (tt : TypeId), P.underlying t = some (.slice e) → P.info? e = some i → w.heap[g]? = some (.cells cur tt (0, 0)) → nv.length = m * i.size → (∀ u ∈ nv, u.oneCell' = true) →
    (sLen + m) * i.bytes ≤ 140737488355328 → sLen + m ≤ 9223372036854775807 → sLen + m ≤ sCap → o + sLen * i.size + nv.length ≤ cur.size →
    (Builtin.append_ #[t, tx] ty #[.slice (some ⟨g, o, none⟩) sLen sCap, xv]).run P w =
      .ok (.slice (some ⟨g, o, none⟩) (sLen + m) sCap) (w.setRow g (cur.toList.take (o + sLen * i.size) ++ nv ++ cur.toList.drop (o + sLen * i.size + nv.length)).toArray)
  grow : ∀ (ty e : TypeId) (i : TypeInfo) (z : Value) (o : Option Addr) (n cap : Nat) (olds : List Value), P.underlying t = some (.slice e) → P.info? e = some i → i.zero = some z → (o = none → cap = 0) → n ≤ cap → olds.length = n * i.size → (∀ ad, o = some ad → ∀ j v, olds[j]? = some v → w.cell? (ad.add j) = some v) →
    nv.length = m * i.size → cap < n + m → 0 < m → n + m ≤ 9223372036854775807 → (n + m) * i.bytes ≤ 140737488355328 →
    (Builtin.append_ #[t, tx] ty #[.slice o n cap, xv]).run P w = .ok (.slice (some ⟨w.heap.size, 0, none⟩) (n + m) (grownCap w (n + m) cap e))
      (w.drew.alloc (.cells (olds.toArray ++ nv.toArray ++ Builtin.zeroCells z.cells (grownCap w (n + m) cap e - (n + m))) e))

theorem ApX_slice {t : TypeId} {b : Addr} {m c : Nat} {nv : List Value} (hnv : ∀ j v, nv[j]? = some v → w.cell? (b.add j) = some v) : ApX P t t (.slice (some b) m c) m nv w where
  room ty e i g o sLen sCap cur tt hun hi hh hnl hone _ _ hfit hoff := run_append_room' (P := P) (w := w) t ty e i hun hi g o sLen sCap cur tt hh (some b) m c nv hnl (fun b' hb' => by obtain rfl := Option.some.inj hb'; exact hnv) (fun h => by cases h) hone hfit hoff
  grow ty e i z o n cap olds hun hi hiz ho hnc hol hoc hnl hlt hm0 hmax hbytes := by
    cases o with
    | none =>
      obtain rfl := ho rfl
      obtain rfl : n = 0 := by omega
      obtain rfl : olds = [] := List.eq_nil_of_length_eq_zero (by simpa using hol)
      have := run_append_nil (P := P) w t ty e i z hun hi hiz b m c nv hnl hnv hm0 (by omega) (by simp only [Nat.zero_add] at hbytes; omega)
      simpa using this
    | some ad =>
      exact run_append_grow (P := P) w t ty e i z hun hi hiz ad n cap olds hol (hoc ad rfl) b m c nv hnl hnv hlt (by omega) (growslice_fits hlt hbytes)

theorem ApX_zero {t tx e : TypeId} {kn k : IntKind} {i : TypeInfo} {zv : Value} (htx : P.underlying tx = some (.int kn)) (hun : P.underlying t = some (.slice e)) (hi : P.info? e = some i) (hiz : i.zero = some zv) (hzs : zv.cells.size = i.size) (hs : 0 < i.size) {m : Nat} (hm0 : 0 < m) : ApX P t tx (.int k m) m (Builtin.zeroCells zv.cells m).toList w where
  room ty e2 i2 g o sLen sCap cur tt hun2 hi2 hh hnl hone hb hmx hfit hoff := by
    rw [hun] at hun2
    obtain rfl : e = e2 := by injection hun2 with h; injection h
    rw [hi] at hi2
    obtain rfl : i = i2 := by injection hi2
    have hst := run_storeCells_at P g (o + sLen * i.size) tt (Builtin.zeroCells zv.cells m).toList 0 cur w hh (by simpa using hoff) hone
    simp only [Nat.add_zero] at hst
    have hw : IntKind.i64.wrap (m : Int) = m := by rw [IntKind.wrap_i64]; omega
    have hmb : m * i.bytes ≤ (sLen + m) * i.bytes := Nat.mul_le_mul_right _ (by omega)
    have h48i : ¬ (281474976710656 < (m : Int) * (i.bytes : Int)) := by rw [← Int.natCast_mul]; omega
    have hneg : ¬ ((m : Int) < 0) := by omega
    have hm1 : m ≠ 0 := by omega
    have hns : ¬ (m * i.size = 0) := Nat.mul_ne_zero hm1 (by omega)
    simp [Builtin.append_, run_underlying hun, run_underlying htx, sizeOf, typeInfo, zeroValue, hi, hiz, asInt, asIntOf, hw, hm1, hneg, hns, h48i, hfit, Addr.add_lit, hst]
  grow ty e2 i2 z2 o n cap olds hun2 hi2 hiz2 ho hnc hol hoc hnl hlt _ hmax hbytes := by
    rw [hun] at hun2
    obtain rfl : e = e2 := by injection hun2 with h; injection h
    rw [hi] at hi2
    obtain rfl : i = i2 := by injection hi2
    rw [hiz] at hiz2
    obtain rfl : zv = z2 := by injection hiz2
    have hw : IntKind.i64.wrap (m : Int) = m := by rw [IntKind.wrap_i64]; omega
    have hmb : m * i.bytes ≤ (n + m) * i.bytes := Nat.mul_le_mul_right _ (by omega)
    have h48i : ¬ (281474976710656 < (m : Int) * (i.bytes : Int)) := by rw [← Int.natCast_mul]; omega
    have hneg : ¬ ((m : Int) < 0) := by omega
    have hm1 : m ≠ 0 := by omega
    have hns : ¬ (m * i.size = 0) := Nat.mul_ne_zero hm1 (by omega)
    have hn : ¬ (n + m ≤ cap) := by omega
    have h63' : ¬ (9223372036854775807 < ((n : Int) + (m : Int))) := by omega
    have hfit : Builtin.nextslicecap (n + m) cap * i.bytes ≤ 281474976710656 := growslice_fits hlt hbytes
    have h48' : ¬ (281474976710656 < Builtin.nextslicecap (n + m) cap * i.bytes) := by omega
    have hold : (Builtin.firstCells i.size n (.slice o n cap)).run P w.drew = .ok olds.toArray w.drew := by
      cases o with
      | none =>
        obtain rfl := ho rfl
        obtain rfl : n = 0 := by omega
        obtain rfl : olds = [] := List.eq_nil_of_length_eq_zero (by simpa using hol)
        exact run_firstCells_none w.drew i.size 0 0 0
      | some ad => exact run_firstCells_some (P := P) w.drew i.size n ad n cap olds hol (by simpa using hoc ad rfl)
    simp [Builtin.append_, run_underlying hun, run_underlying htx, sizeOf, typeInfo, zeroValue, hi, hiz, asInt, asIntOf, hw, hm1, hneg, hns, h48i, hn, h63', h48', Question.forced, hold, newRow, grownCap]

theorem app_sound {t ty : TypeId} {p : AA} {n cap m : Nat} {news : Nat → List AC} {K : AV → St → Prop} (hm : Mt W w0 ρ0 S a w) (hm0 : 0 < m) (h : appVC P S t p n cap m news K)
    {o : Option Addr} {tx : TypeId} {xv : Value} (hncap : n ≤ cap) (ho : 0 < cap → o = some (p.conc ρ0)) {nv : List Value} {sz : Nat} (hsz : (elP P t).map (·.2.1) = some sz) (hnl : nv.length = m * sz) (hlen : ∀ k, k < m → (news k).length = sz)
    (hX : ApX P t tx xv m nv w) (hnc : ∀ ρ, Agree S.look ρ0 ρ → Cells ρ (flat news m) nv) :
    ∃ av S' ρ1 v w', K av S' ∧ (∀ x, Same ρ0 ρ1 (.out x)) ∧ (Builtin.append_ #[t, tx] ty #[.slice o n cap, xv]).run P w = .ok v w' ∧ Mt W w0 ρ1 S' a w' ∧ ∀ ρ, Agree S'.look ρ1 ρ → av.Is ρ v := by
  unfold appVC at h
  split at h
  · rename_i e sz1 by_ hel
    obtain ⟨hzl, ⟨hmax, hbytes⟩, hin, hgrow⟩ := h
    obtain ⟨hun, i, hi, hisz, hiby⟩ := run_elP hel
    simp [hel] at hsz
    subst hsz
    subst hisz
    obtain ⟨z, hz⟩ : ∃ z, zeroP P e = some z := by cases hq : zeroP P e with
      | none => simp [hq] at hzl
      | some z => exact ⟨z, rfl⟩
    obtain ⟨zv, i', hi', hiz, hzc, _⟩ := run_zeroP hz
    obtain rfl : i' = i := by rw [hi] at hi'; exact (Option.some.inj hi').symm
    have hzs : zv.cells.size = i'.size := by
      have := (hzc ρ0).length
      simp [hz] at hzl
      simpa [hzl] using this
    have h0 := hm ρ0 (Agree.refl _ _)
    by_cases hfit : n + m ≤ cap
    · have hcap : 0 < cap := by omega
      have hin := hin hfit
      split at hin
      · rename_i own ty' sz' cnt cp len get hl
        obtain ⟨⟨rfl, rfl, hf, hpi, hlen0, hcp⟩, hK⟩ := hin
        obtain ⟨hs0, hr⟩ := h0.mem.regs _ _ hl
        obtain ⟨hlc, hcells, hown⟩ := hr _ hpi
        have hcpos : 0 < cp p.i := by omega
        obtain ⟨hb, cur, hh, hcs⟩ := hown rfl hcpos
        have hone := (hnc ρ0 (Agree.refl _ _)).oneCell
        have hoff : p.k * i'.size + n * i'.size + nv.length ≤ cur.size := by
          rw [hcs, hnl, ← Nat.add_mul, ← Nat.add_mul]
          exact Nat.mul_le_mul_right _ (by omega)
        have hrun := hX.room ty e i' (ρ0.blk p.r p.i) (p.k * i'.size) n cap cur ty' hun hi hh hnl hone (by rw [hiby]; exact hbytes) hmax hfit hoff
        have hconc : p.conc ρ0 = ⟨ρ0.blk p.r p.i, p.k * i'.size, none⟩ := by rw [conc_eq, hs0, hb, hf]; simp
        refine ⟨_, _, ρ0, .slice (some ⟨ρ0.blk p.r p.i, p.k * i'.size, none⟩) (n + m) cap, w.setRow (ρ0.blk p.r p.i) (cur.toList.take (p.k * i'.size + n * i'.size) ++ nv ++ cur.toList.drop (p.k * i'.size + n * i'.size + nv.length)).toArray, hK, fun _ => Same.refl _ _, by rw [ho hcap, hconc]; exact hrun,
          Mt_setRg hl (RgLe_tidy _) (Mt_write hm (i0 := p.i) hl rfl ⟨hpi, hcpos⟩ (fun b hb => setRow_same w _ b _ hb) (setRow_size _ _ _) rfl rfl rfl id (fun _ => id) ?_), fun ρ hρ => ?_⟩
        · intro ρ hρ hreg hsm hdis
          have hsame := hρ _ _ hl
          obtain ⟨hs1, hr1⟩ := hreg
          have hrow : ∀ q, (w.setRow (ρ0.blk p.r p.i) (cur.toList.take (p.k * i'.size + n * i'.size) ++ nv ++ cur.toList.drop (p.k * i'.size + n * i'.size + nv.length)).toArray).cell? ⟨ρ.blk p.r p.i, q, none⟩ =
              if p.k * i'.size + n * i'.size ≤ q ∧ q < p.k * i'.size + n * i'.size + nv.length then nv[q - (p.k * i'.size + n * i'.size)]? else w.cell? ⟨ρ.blk p.r p.i, q, none⟩ := by
            intro q
            rw [← hsame.blk, cell?_setRow_same hh]
            have := seg_get cur.toList nv (p.k * i'.size + n * i'.size) (by simpa using hoff) q
            simp only [List.getElem?_toArray, this]
            split
            · rfl
            · simp [World.cell?, hh]
          have hb1 : ρ.base p.r p.i = 0 := by rw [← hsame.base]; exact hb
          refine ⟨hs1, fun i hi2 => ⟨?_, fun k hk => ?_, fun _ hc => ?_⟩⟩
          · have := (hr1 i hi2).1
            by_cases e2 : i = p.i
            · subst e2; simp; omega
            · simp [e2, this]
          · by_cases hin : i = p.i ∧ p.k + n ≤ k ∧ k < p.k + n + m
            · obtain ⟨rfl, h1, h2⟩ := hin
              have hgg : (fun i k => if i = p.i ∧ p.k + n ≤ k ∧ k < p.k + n + m then nth news (k - (p.k + n)) else get i k) p.i k = news (k - (p.k + n)) := if_pos ⟨rfl, h1, h2⟩
              rw [hgg]
              have hkm : k - (p.k + n) < m := by omega
              refine ⟨hlen _ hkm, fun f d hd => ?_⟩
              have hff : f < i'.size := by have := (List.getElem?_eq_some_iff.1 hd).1; rwa [hlen _ hkm] at this
              obtain ⟨x, hx, hI⟩ := (hnc ρ hρ).get ((k - (p.k + n)) * i'.size + f) d (by rw [flat_get hlen _ f hkm hff]; exact hd)
              refine ⟨x, ?_, hI⟩
              have hxl := (List.getElem?_eq_some_iff.1 hx).1
              have e1 : k * i'.size = (p.k + n) * i'.size + (k - (p.k + n)) * i'.size := by rw [← Nat.add_mul]; congr 1; omega
              rw [Nat.add_mul] at e1
              rw [hb1, Nat.zero_add, hrow, if_pos (by omega), ← hx]
              congr 1; omega
            · have hgg : (fun i k => if i = p.i ∧ p.k + n ≤ k ∧ k < p.k + n + m then nth news (k - (p.k + n)) else get i k) i k = get i k := if_neg hin
              rw [hgg]
              have hk1 : k < len i := by
                by_cases e2 : i = p.i
                · subst e2; simp at hk; omega
                · simpa [e2] using hk
              obtain ⟨hl1, hg1⟩ := (hr1 i hi2).2.1 k hk1
              refine ⟨hl1, fun f d hd => ?_⟩
              obtain ⟨x, hx, hI⟩ := hg1 f d hd
              refine ⟨x, ?_, hI⟩
              have hff := (List.getElem?_eq_some_iff.1 hd).1
              by_cases e2 : i = p.i
              · subst e2
                rw [hb1, Nat.zero_add] at hx ⊢
                rw [hrow, if_neg]
                · exact hx
                · rintro ⟨h1, h2⟩
                  rw [← Nat.add_mul] at h1 h2
                  rw [hnl, ← Nat.add_mul] at h2
                  rcases Nat.lt_or_ge k (p.k + n) with h3 | h3
                  · have : (k + 1) * i'.size ≤ (p.k + n) * i'.size := Nat.mul_le_mul_right _ (by omega)
                    rw [Nat.add_mul] at this
                    omega
                  · have : (p.k + n + m) * i'.size ≤ k * i'.size := Nat.mul_le_mul_right _ (by have : ¬ k < p.k + n + m := fun h => hin ⟨rfl, h3, h⟩; omega)
                    omega
              · have hne : ρ.blk p.r i ≠ ρ.blk p.r p.i := hdis i ⟨hi2, by have := (hr1 i hi2).1; omega⟩ e2
                rw [World.cell?_of_block (w := w) (hsm _ hne)]; exact hx
          · obtain ⟨e3, cur', e4, e5⟩ := (hr1 i hi2).2.2 rfl hc
            by_cases e2 : i = p.i
            · subst e2
              refine ⟨e3, _, by rw [← hsame.blk]; exact setRow_heap w _ _ _ ty' (0, 0) hh, ?_⟩
              simp only [List.size_toArray, List.length_append, List.length_take, List.length_drop, Array.length_toList]
              omega
            · have hne : ρ.blk p.r i ≠ ρ.blk p.r p.i := hdis i ⟨hi2, hc⟩ e2
              exact ⟨e3, cur', by rw [hsm _ hne]; exact e4, e5⟩
        · refine ⟨_, rfl, hfit, fun _ => ?_⟩
          have hsame := hρ p.r _ (by rw [look_setRg hl, if_pos rfl])
          rw [← hconc, AA.conc_same hsame]
      · exact hin.elim
    · have hlt : cap < n + m := by omega
      obtain ⟨hold, hK⟩ := hgrow hlt
      have hgc := grownCap_ge w (n + m) cap e
      have hgl := grownCap_lt w (n + m) cap e hmax
      -- what was there
      obtain ⟨olds, hol, hoc, hor, holen⟩ : ∃ olds : List Value, olds.length = n * i'.size ∧ (∀ ad, o = some ad → ∀ j v, olds[j]? = some v → w.cell? (ad.add j) = some v) ∧
          (∀ ρ, Agree S.look ρ0 ρ → Cells ρ (flat (S.at p) n) olds) ∧ ∀ k, k < n → (S.at p k).length = i'.size := by
        rcases Nat.eq_zero_or_pos n with hn0 | hn0
        · subst hn0
          exact ⟨[], by simp, fun _ _ j v h => by simp at h, fun _ _ => trivial, fun k hk => absurd hk (by omega)⟩
        · have hcap : 0 < cap := by omega
          rcases hold with hn | hreg
          · omega
          split at hreg
          · rename_i own ty' sz' cnt cp len get hl
            obtain ⟨rfl, hf, hpi, hpl⟩ := hreg
            obtain ⟨hl1, vs, hv1, hv2, hv3⟩ := read_row hm hl hpi hf hpl
            have hat : S.at p = fun k => get p.i (p.k + k) := by funext k; simp [St.at, hl]
            rw [hat]
            exact ⟨vs, hv1, fun ad had => by rw [ho hcap] at had; obtain rfl := Option.some.inj had; exact hv2, hv3, hl1⟩
          · exact hreg.elim
      have hrun := hX.grow ty e i' zv o n cap olds hun hi hiz (fun h => by
        rcases Nat.eq_zero_or_pos cap with e | e
        · exact e
        · rw [ho e] at h; cases h) hncap hol hoc hnl hlt hm0 hmax (by rw [hiby]; exact hbytes)
      have hK := hK (grownCap w (n + m) cap e) hgc hgl
      refine ⟨_, _, ρ0.set (.loc S.loc.length) w.heap.size i'.size, _, _, hK, fun x => ⟨fun i => by simp [Env.set], fun i => by simp [Env.set], by simp [Env.set]⟩, hrun,
        Mt_allocLe (RgLe_one (n := n + m) (g := fun k => if k < n then S.at p k else news (k - n)) (by simp [win_length]) fun k hk => ?_) (Mt_alloc (Mt_drew hm) _ i'.size _ (fun i hi => by have := hi.1; omega) fun ρ hρ hb hba hs => ?_), fun ρ hρ => ?_⟩
      · simp only [List.length_append, win_length] at hk
        by_cases hkn : k < n
        · simp only [if_pos hkn]
          rw [List.getD_eq_getElem?_getD, List.getElem?_append_left (by rw [win_length]; exact hkn), ← List.getD_eq_getElem?_getD, win_get _ hkn]
        · simp only [if_neg hkn]
          rw [List.getD_eq_getElem?_getD, List.getElem?_append_right (by rw [win_length]; omega), ← List.getD_eq_getElem?_getD, win_length, win_get _ (by omega)]
      · have hcl : Cells ρ (flat (fun k => if k < n then S.at p k else news (k - n)) (n + m)) (olds ++ nv) := by
          rw [flat_append]; exact (hor ρ hρ).append (hnc ρ hρ)
        refine RegOk_row (get := fun k => if k < n then S.at p k else news (k - n)) (vs := olds ++ nv) (heap_alloc_new w.drew _) (fun _ => rfl) hb hba hs ?_ hgc (fun k hk => ?_) ?_ hcl
        · simp only [Array.size_append, List.size_toArray, size_zeroCells, hzs, hol, hnl, ← Nat.add_mul]
          congr 1; omega
        · by_cases h : k < n
          · simp [h, holen k h]
          · simp [h, hlen (k - n) (by omega)]
        · simp only [Array.toList_append]
          exact List.take_left
      · refine ⟨_, rfl, hgc, fun _ => ?_⟩
        have hsame := hρ (.loc S.loc.length) _ (by rw [look_alloc, if_pos rfl])
        rw [← AA.conc_same (a := S.nx) hsame]
        simp [conc_eq, St.nx, Env.set]
  · exact h.elim
end
end Go.Eng

namespace Go.Eng

theorem dnr_get (n : Nat) : ∀ (l : List Rg) (j : Nat), (dnr n l)[j]? = (l[j]?).map (Rg.dn n)
  | [], j => by simp [dnr]
  | g :: r, 0 => by simp [dnr]
  | g :: r, j + 1 => by simp [dnr, dnr_get n r j]
theorem dnr_length (n : Nat) : ∀ l : List Rg, (dnr n l).length = l.length
  | [] => rfl
  | g :: r => by simp [dnr, dnr_length n r]

theorem look_setAll {S : St} {n : Nat} : ∀ {l : List (RId × Rg)}, (∀ p ∈ l, (S.look p.1).isSome = true) → ∀ y, (S.setAll n l).look y = match findO l y with
    | some g => some (g.dn n)
    | none => S.look y
  | [], _, y => by simp [St.setAll, findO]
  | (x, g) :: r, h, y => by
    have ih := look_setAll (S := S) (n := n) (l := r) fun p hp => h p (by simp [hp])
    have hx : ∃ g0, (S.setAll n r).look x = some g0 := by
      rw [ih]
      split
      · exact ⟨_, rfl⟩
      · exact Option.isSome_iff_exists.1 (h (x, g) (by simp))
    obtain ⟨g0, hg0⟩ := hx
    simp only [St.setAll, look_setRg hg0, findO, ih]
    by_cases e : y = x
    · subst e; simp
    · simp [e, Ne.symm e]
theorem setAll_tmps (n : Nat) : ∀ (l : List (RId × Rg)) (S : St), (S.setAll n l).tmps = S.tmps
  | [], _ => rfl
  | (x, g) :: r, S => by
    have := setAll_tmps n r S
    simp only [St.setAll]
    cases x <;> simp [St.setRg, this]

theorem AC.map_map {h k : RId → RId} (c : AC) : (c.map h).map k = c.map (k ∘ h) := by
  cases c with
  | clo f caps => simp only [AC.map, List.map_map]; rfl
  | _ => rfl
theorem AC.map_id (c : AC) : c.map id = c := by
  cases c with
  | clo f caps =>
    simp only [AC.map]
    congr
    rw [show AA.map id = id from rfl, List.map_id]
  | _ => rfl
theorem Rg.map_map {h k : RId → RId} (g : Rg) : (g.map h).map k = g.map (k ∘ h) := by
  cases g <;> simp [Rg.map, Function.comp_def, AC.map_map]
theorem Rg.map_id (g : Rg) : g.map id = g := by
  cases g <;> simp [Rg.map, show AC.map id = id from funext AC.map_id]
theorem Rg.up_dn (n : Nat) (g : Rg) : (g.up).map (RId.dn n) = g := by
  rw [Rg.up_map, Rg.map_map]
  exact Rg.map_id g

section
variable {P : Program} {W : Nat → Prop} {w0 : World} {ρ0 : Env} {S : St} {a : Act} {w : World}

theorem call_sound (hm : Mt W w0 ρ0 S a w) {f : FuncId} {args : List AV} {vs : List Value} {ι : Type} {cond : ι → Prop} {val : ι → AV} {new : ι → List Rg} {upd : ι → List (RId × Rg)}
    (hc : CallOK P f args S.look ι cond val new upd) (ha : ∀ ρ, Agree S.look ρ0 ρ → Args ρ args vs) :
    Calls P f vs.toArray w fun e w' => ∃ p ρ1 v, cond p ∧ e = .returned v ∧ (∀ x, Same ρ0 ρ1 (.out x)) ∧
      Mt W w0 ρ1 (({ S with loc := S.loc ++ dnr S.loc.length (new p) } : St).setAll S.loc.length (upd p)) a w' ∧
      ∀ ρ, Agree (({ S with loc := S.loc ++ dnr S.loc.length (new p) } : St).setAll S.loc.length (upd p)).look ρ1 ρ → ((val p).dn S.loc.length).Is ρ v := by
  have h0 := hm ρ0 (Agree.refl _ _)
  have hcalls := hc (fun b => W b ∨ w0.heap.size ≤ b) ρ0 w vs rfl fun ρ hρ => by
    have hr := hm ρ hρ
    exact ⟨⟨hr.mem.regs, hr.mem.dis, fun x g i h1 h2 h3 => .inl (hr.mem.wr x g i h1 h2 h3), hr.mem.lt⟩, ha ρ hρ⟩
  refine hcalls.mono ?_
  rintro e w' ⟨p, ρ', v, hp, rfl, hfr, hbk, hba, hsz, hup, hres⟩
  generalize hn : S.loc.length = n at *
  generalize hSe : ({ S with loc := S.loc ++ dnr n (new p) } : St) = Se
  have hSel : ∀ y, Se.look y = match y with
      | .loc j => if j < n then S.look (.loc j) else ((new p)[j - n]?).map (Rg.dn n)
      | y => S.look y := by
    intro y
    subst hSe
    cases y with
    | loc j =>
      simp only [St.look]
      split
      · rw [List.getElem?_append_left (by omega)]
      · rw [List.getElem?_append_right (by omega), dnr_get, hn]
    | out x => rfl
    | nil => rfl
  have hSes : ∀ y g, S.look y = some g → Se.look y = some g := by
    intro y g hy
    rw [hSel]
    cases y with
    | loc j =>
      have : j < n := by rw [← hn]; exact (List.getElem?_eq_some_iff.1 hy).1
      simp only [if_pos this]; exact hy
    | out x => exact hy
    | nil => exact hy
  have hup' : ∀ p' ∈ upd p, (Se.look p'.1).isSome = true := by
    intro p' hp'
    obtain ⟨g, hg⟩ := Option.isSome_iff_exists.1 (hup p' hp')
    rw [hSes _ g hg]; rfl
  have hlook := look_setAll (S := Se) (n := n) hup'
  -- names
  have hback : ∀ y g', (Se.setAll n (upd p)).look y = some g' → ∃ x g, RId.dn n x = y ∧ aft S.look (upd p) (new p) x = some g ∧ g' = g.map (RId.dn n) := by
    intro y g' hy
    rw [hlook] at hy
    by_cases hloc : ∃ j, y = .loc j ∧ n ≤ j
    · obtain ⟨j, rfl, hj⟩ := hloc
      have hnone : findO (upd p) (.loc j) = none := by
        cases hf : findO (upd p) (.loc j) with
        | none => rfl
        | some g =>
          exfalso
          have : ∀ l : List (RId × Rg), findO l (.loc j) = some g → ∃ p' ∈ l, p'.1 = .loc j := by
            intro l
            induction l with
            | nil => intro h; cases h
            | cons q r ih =>
              intro h
              obtain ⟨z, gz⟩ := q
              simp only [findO] at h
              split at h
              · rename_i e; exact ⟨(z, gz), by simp, e⟩
              · obtain ⟨p', h1, h2⟩ := ih h; exact ⟨p', by simp [h1], h2⟩
          obtain ⟨p', h1, h2⟩ := this _ hf
          have := hup p' h1
          rw [h2] at this
          simp only [St.look] at this
          rw [List.getElem?_eq_none (by omega)] at this
          cases this
      rw [hnone] at hy
      simp only [hSel] at hy
      rw [if_neg (by omega)] at hy
      cases hx : (new p)[j - n]? with
      | none => simp [hx] at hy
      | some g =>
        simp [hx] at hy
        exact ⟨.loc (j - n), g, by simp [RId.dn]; omega, by simp [aft, hx], by rw [← Rg.dn_map]; exact hy.symm⟩
    · refine ⟨.out y, ?_⟩
      have hyS : Se.look y = S.look y := by
        rw [hSel]
        cases y with
        | loc j => simp only; rw [if_pos (by rcases Nat.lt_or_ge j n with h | h; exact h; exact absurd ⟨j, rfl, h⟩ hloc)]
        | out x => rfl
        | nil => rfl
      cases hf : findO (upd p) y with
      | some g =>
        rw [hf] at hy
        simp at hy
        exact ⟨g, rfl, by simp [aft, hf], by rw [← Rg.dn_map]; exact hy.symm⟩
      | none =>
        rw [hf] at hy
        simp only [hyS] at hy
        exact ⟨g'.up, rfl, by simp [aft, hf, hy], (Rg.up_dn n g').symm⟩
  have hdom : ∀ y g, S.look y = some g → ∃ g', (Se.setAll n (upd p)).look y = some g' := by
    intro y g hy
    rw [hlook]
    cases hf : findO (upd p) y with
    | some g1 => exact ⟨_, rfl⟩
    | none => exact ⟨g, hSes y g hy⟩
  let ρ1 : Env := ⟨fun x i => match x with | .loc j => if j < n then ρ0.blk (.loc j) i else ρ'.blk (.loc (j - n)) i | x => ρ0.blk x i,
    fun x i => match x with | .loc j => if j < n then ρ0.base (.loc j) i else ρ'.base (.loc (j - n)) i | x => ρ0.base x i,
    fun x => match x with | .loc j => if j < n then ρ0.sz (.loc j) else ρ'.sz (.loc (j - n)) | x => ρ0.sz x⟩
  have hρ1old : ∀ y g, S.look y = some g → Same ρ0 ρ1 y := by
    intro y g hy
    cases y with
    | loc j =>
      have : j < n := by rw [← hn]; exact (List.getElem?_eq_some_iff.1 hy).1
      exact ⟨fun i => by simp [ρ1, this], fun i => by simp [ρ1, this], by simp [ρ1, this]⟩
    | out x => exact ⟨fun _ => rfl, fun _ => rfl, rfl⟩
    | nil => cases hy
  have hag0 : ∀ ρ, Agree (Se.setAll n (upd p)).look ρ1 ρ → Agree S.look ρ0 ρ := by
    intro ρ hρ y g hy
    obtain ⟨g', hg'⟩ := hdom y g hy
    exact (hρ1old y g hy).trans (hρ y g' hg')
  have hagc : ∀ ρ, Agree (Se.setAll n (upd p)).look ρ1 ρ → Agree (aft S.look (upd p) (new p)) ρ' (ρ.pull (RId.dn n)) := by
    intro ρ hρ x g hx
    cases x with
    | nil => cases hx
    | loc j =>
      have hj : (new p)[j]? = some g := hx
      have hsome : ∃ g', (Se.setAll n (upd p)).look (.loc (n + j)) = some g' := by
        rw [hlook]
        cases hf : findO (upd p) (.loc (n + j)) with
        | some g1 => exact ⟨_, rfl⟩
        | none =>
          refine ⟨g.dn n, ?_⟩
          simp only [hSel]
          rw [if_neg (by omega), show n + j - n = j by omega, hj]; rfl
      obtain ⟨g', hg'⟩ := hsome
      have hs := hρ _ _ hg'
      have hnj : ¬ (n + j < n) := by omega
      exact ⟨fun i => by have := hs.blk i; simpa [ρ1, hnj, Env.pull, RId.dn] using this, fun i => by have := hs.base i; simpa [ρ1, hnj, Env.pull, RId.dn] using this, by have := hs.sz; simpa [ρ1, hnj, Env.pull, RId.dn] using this⟩
    | out y =>
      have hM : ∃ g0, S.look y = some g0 := by
        simp only [aft] at hx
        cases hf : findO (upd p) y with
        | some g1 =>
          have : ∀ l : List (RId × Rg), findO l y = some g1 → ∃ p' ∈ l, p'.1 = y := by
            intro l
            induction l with
            | nil => intro h; cases h
            | cons q r ih =>
              intro h
              obtain ⟨z, gz⟩ := q
              simp only [findO] at h
              split at h
              · rename_i e; exact ⟨(z, gz), by simp, e⟩
              · obtain ⟨p', h1, h2⟩ := ih h; exact ⟨p', by simp [h1], h2⟩
          obtain ⟨p', h1, h2⟩ := this _ hf
          have := hup p' h1
          rw [h2] at this
          exact Option.isSome_iff_exists.1 this
        | none =>
          rw [hf] at hx
          cases hS : S.look y with
          | none => simp [hS] at hx
          | some g0 => exact ⟨g0, rfl⟩
      obtain ⟨g0, hg0⟩ := hM
      have hs := hag0 ρ hρ y g0 hg0
      exact ⟨fun i => by rw [hbk]; exact hs.blk i, fun i => by rw [hba]; exact hs.base i, by rw [hsz]; exact hs.sz⟩
  refine ⟨p, ρ1, v, hp, rfl, fun x => ⟨fun _ => rfl, fun _ => rfl, rfl⟩, ?_, fun ρ hρ => ?_⟩
  · rw [hSe]
    intro ρ hρ
    have hr := hm ρ (hag0 ρ hρ)
    obtain ⟨hmem, _⟩ := hres _ (hagc ρ hρ)
    refine ⟨⟨?_, ?_, ?_, ?_⟩, ?_, ?_, ?_, hr.defers⟩
    · intro y g' hy
      obtain ⟨x, g, rfl, hx, rfl⟩ := hback y g' hy
      exact RegOk_map.2 (hmem.regs x g hx)
    · intro y1 g1 i1 y2 g2 i2 h1 ho h1h h2 h2h hne
      obtain ⟨x1, k1, rfl, hx1, rfl⟩ := hback y1 g1 h1
      obtain ⟨x2, k2, rfl, hx2, rfl⟩ := hback y2 g2 h2
      refine hmem.dis x1 k1 i1 x2 k2 i2 hx1 (by rwa [Rg.own_map] at ho) ((Rg.has_map _ _ _).1 h1h) hx2 ((Rg.has_map _ _ _).1 h2h) ?_
      rcases hne with hne | hne
      · exact .inl fun e => hne (by rw [e])
      · exact .inr hne
    · intro y g' i hy ho hh
      obtain ⟨x, g, rfl, hx, rfl⟩ := hback y g' hy
      rcases hmem.wr x g i hx (by rwa [Rg.own_map] at ho) ((Rg.has_map _ _ _).1 hh) with h | h
      · exact h
      · right
        have := hr.fr.size
        exact Nat.le_trans this h
    · intro y g' i hy hh
      obtain ⟨x, g, rfl, hx, rfl⟩ := hback y g' hy
      exact hmem.lt x g i hx ((Rg.has_map _ _ _).1 hh)
    · have h1 := hr.fr
      refine ⟨hfr.os.trans h1.os, hfr.tape.trans h1.tape, hfr.output.trans h1.output, Nat.le_trans h1.size hfr.size, fun b hb hw => ?_⟩
      rw [hfr.block b (Nat.lt_of_lt_of_le hb h1.size) (by rintro (h | h); exact hw h; omega)]
      exact h1.block b hb hw
    · rw [setAll_tmps, ← hSe]; exact hr.size
    · rw [setAll_tmps, ← hSe]; exact hr.tmps
  · rw [hSe] at hρ
    obtain ⟨_, hv⟩ := hres _ (hagc ρ hρ)
    rw [AV.dn_map]
    exact AV.Is_map.2 hv
end
end Go.Eng

namespace Go.Eng

section
variable {P : Program} {w : World}

theorem kind1_of {t : TypeId} {k : Nat} (h : kind1 P t = some k) : (k = 0 ∧ ∃ ik, P.underlying t = some (.int ik)) ∨ (k = 1 ∧ P.underlying t = some .bool) ∨ (k = 2 ∧ P.underlying t = some .string) := by
  unfold kind1 at h
  split at h
  · rename_i ik e
    cases h
    exact .inl ⟨rfl, ik, e⟩
  · rename_i e
    cases h
    exact .inr (.inl ⟨rfl, e⟩)
  · rename_i e
    cases h
    exact .inr (.inr ⟨rfl, e⟩)
  · cases h
theorem part1 {t : TypeId} {k : Nat} (h : kind1 P t = some k) {vs : Array Value} {j : Nat} {v : Value} (hv : vs[j]? = some v) : (part t vs j).run P w = .ok v w := by
  rcases kind1_of h with ⟨_, ik, hu⟩ | ⟨_, hu⟩ | ⟨_, hu⟩ <;> simp [part, isAgg, run_underlying hu, hv]
theorem drop_cons {us : List Value} {j : Nat} {v : Value} {r : List Value} (h : us.drop j = v :: r) : us.toArray[j]? = some v ∧ us.drop (j + 1) = r := by
  refine ⟨?_, ?_⟩
  · have := congrArg (fun l => l[0]?) h
    simp only [List.getElem?_drop, Nat.add_zero, List.getElem?_cons_zero] at this
    simpa using this
  · have := congrArg (List.drop 1) h
    simpa [List.drop_drop, Nat.add_comm] using this
theorem Cells_cons {ρ : Env} {c : AC} {cs : List AC} {l : List Value} (h : Cells ρ (c :: cs) l) : ∃ v r, l = v :: r ∧ c.Is ρ v ∧ Cells ρ cs r := by
  cases l with
  | nil => exact h.elim
  | cons v r => exact ⟨v, r, rfl, h.1, h.2⟩
theorem eqFields_sound {ρ : Env} (d : Nat) {us vs : List Value} : ∀ (fs : List Field) (j : Nat) (ks : List Nat) (xs ys : List AC) (K : Bool → Prop), kindL P j fs = some ks → eqCs ks xs ys K →
    Cells ρ xs (us.drop j) → Cells ρ ys (vs.drop j) → ∃ r, K r ∧ (Op.eqFields (d + 1) us.toArray vs.toArray fs).run P w = .ok r w
  | [], j, ks, xs, ys, K, hk, h, hx, hy => by
    cases (Option.some.inj hk : [] = ks)
    match xs, ys, h with
    | [], [], h => exact ⟨true, h, by simp [Op.eqFields]⟩
  | f :: fs, j, ks, xs, ys, K, hk, h, hx, hy => by
    simp only [kindL] at hk
    split at hk
    · rename_i hf
      obtain ⟨hf, rfl⟩ := hf
      split at hk
      · rename_i k ks' hk1 hkL
        cases hk
        have main : ∀ (c c' : AC) (xs' ys' : List AC) (b : Bool), xs = c :: xs' → ys = c' :: ys' → (eqCs ks' xs' ys' fun r => K (b && r)) →
            (∀ u v, c.Is ρ u → c'.Is ρ v → (Op.equalIn (d + 1) f.type u v).run P w = .ok b w) → ∃ r, K r ∧ (Op.eqFields (d + 1) us.toArray vs.toArray (f :: fs)).run P w = .ok r w := by
          intro c c' xs' ys' b e1 e2 hh hq
          subst e1 e2
          obtain ⟨u, ur, hu, hu1, hu2⟩ := Cells_cons hx
          obtain ⟨v, vr, hv, hv1, hv2⟩ := Cells_cons hy
          obtain ⟨hu3, rfl⟩ := drop_cons hu
          obtain ⟨hv3, rfl⟩ := drop_cons hv
          obtain ⟨r, hr, hrun⟩ := eqFields_sound d fs (f.offset + 1) ks' xs' ys' _ hkL hh hu2 hv2
          refine ⟨_, hr, ?_⟩
          simp only [Op.eqFields, if_pos hf, Sem.run_bind, part1 hk1 hu3, part1 hk1 hv3, Result.andThen_ok, hq u v hu1 hv1]
          cases b
          · simp
          · simpa using hrun
        rcases kind1_of hk1 with ⟨rfl, ik, hu⟩ | ⟨rfl, hu⟩ | ⟨rfl, hu⟩
        · match xs, ys, h with
          | .int k x :: xs', .int k' y :: ys', h =>
            obtain ⟨rfl, h⟩ := h
            exact main _ _ xs' ys' _ rfl rfl h fun u v h1 h2 => by
              obtain rfl := h1
              obtain rfl := h2
              rw [run_equalIn_int w d f.type k ik x y hu]; rfl
        · match xs, ys, h with
          | .bool x :: xs', .bool y :: ys', h =>
            exact main _ _ xs' ys' _ rfl rfl h fun u v h1 h2 => by
              obtain rfl := h1
              obtain rfl := h2
              rw [run_equalIn_bool' w d f.type x y hu]; cases x <;> cases y <;> rfl
        · match xs, ys, h with
          | .str x :: xs', .str y :: ys', h =>
            exact main _ _ xs' ys' _ rfl rfl h fun u v h1 h2 => by
              obtain rfl := h1
              obtain rfl := h2
              have hd : (x.toList == y.toList) = decide (x = y) := by
                rw [Bool.eq_iff_iff]
                simp only [beq_iff_eq, decide_eq_true_eq, ByteArray.toList_eq]
                exact ⟨fun e => Go.WideShapes.bytes_inj e, fun e => by rw [e]⟩
              rw [run_equalIn_string w d f.type x y hu, hd]
      · cases hk
    · cases hk
theorem eqA_sound {ρ : Env} {t : TypeId} {xs ys : List AC} {us vs : List Value} {K : Bool → Prop} (h : eqA (aggK P t) xs ys K) (hx : Cells ρ xs us) (hy : Cells ρ ys vs) :
    ∃ r, K r ∧ (Op.equalIn 10000 t (.agg us.toArray) (.agg vs.toArray)).run P w = .ok r w ∧ P.eqGuardType P.depth t = false := by
  unfold eqA at h
  split at h
  · rename_i ks hk
    unfold aggK at hk
    split at hk
    · rename_i fs hu
      split at hk
      · rename_i hp
        obtain ⟨r, h1, h2⟩ := eqFields_sound (w := w) 9998 (us := us) (vs := vs) fs.toList 0 ks xs ys K hk h hx hy
        have hfs : P.fieldsOf t = fs := by simp [Program.fieldsOf, hu]
        refine ⟨r, h1, ?_, hp.2⟩
        rw [run_equalIn_struct w 9999 t _ _ (by rw [hfs]; exact hu) hp.1, hfs]
        exact h2
      · cases hk
    · cases hk
  · exact h.elim

theorem run_nil {t : TypeId} {op : BinOp} {x y : Operand} {va : AV} {a : Value} {K : AV → Prop} {ρ0 : Env} (h : nilVC P t op va K) (ha : va.Is ρ0 a) :
    ∃ v u, K v ∧ (do eqGuard op t x y a (.slice none 0 0); binOp op t a (.slice none 0 0) : Sem Value).run P w = .ok u w ∧ ∀ ρ, v.Is ρ u := by
  unfold nilVC at h
  split at h
  · rename_i _ _ c0
    obtain ⟨o, rfl, _, ho⟩ := ha
    have hst : slT P t = true → ∃ e, P.underlying t = some (.slice e) := by
      unfold slT; split
      · rename_i e he; exact fun _ => ⟨e, he⟩
      · intro h; cases h
    cases op <;> simp only [] at h
    case eql =>
      obtain ⟨e, he⟩ := hst h.1
      refine ⟨_, _, h.2 o.isNone ?_, ?_, fun _ => rfl⟩
      · intro hn
        rcases Nat.eq_zero_or_pos c0 with h0 | h0
        · exact h0
        · rw [ho h0] at hn; cases hn
      · simp [eqGuard, binOp, run_equal_slice_nil w t e _ _ _ he]
    case neq =>
      obtain ⟨e, he⟩ := hst h.1
      refine ⟨_, _, h.2 o.isNone ?_, ?_, fun _ => rfl⟩
      · intro hn
        rcases Nat.eq_zero_or_pos c0 with h0 | h0
        · exact h0
        · rw [ho h0] at hn; cases hn
      · simp [eqGuard, binOp, run_equal_slice_nil w t e _ _ _ he]
    all_goals exact h.elim
  · exact h.elim

theorem run_bin {t : TypeId} {op : BinOp} {x y : Operand} {va vb : AV} {a b : Value} {K : AV → Prop} {ρ0 : Env} (h : binVC P t op va vb true K) (ha : va.Is ρ0 a) (hb : vb.Is ρ0 b) :
    ∃ v u, K v ∧ (do eqGuard op t x y a b; binOp op t a b : Sem Value).run P w = .ok u w ∧ ∀ ρ, v.Is ρ u := by
  unfold binVC at h
  split at h
  · rename_i k m k' n
    obtain rfl := ha
    obtain rfl := hb
    have hg : ∀ op, (eqGuard op t x y (.int k m) (.int k' n)) = pure () := by
      intro op; cases op <;> rfl
    cases op <;> simp only [forall_const] at h
    case shl =>
      refine ⟨_, _, h.2, ?_, fun _ => rfl⟩
      have : ¬ n < 0 := by have := h.1; omega
      simp [hg, binOp, Op.shift, this]
    case shr =>
      refine ⟨_, _, h.2, ?_, fun _ => rfl⟩
      have : ¬ n < 0 := by have := h.1; omega
      simp [hg, binOp, Op.shift, this]
    case quo =>
      obtain ⟨⟨rfl, hn⟩, hK⟩ := h
      exact ⟨_, _, hK, by simp [hg, binOp, Op.intDiv, hn], fun _ => rfl⟩
    case rem =>
      obtain ⟨⟨rfl, hn⟩, hK⟩ := h
      exact ⟨_, _, hK, by simp [hg, binOp, Op.intDiv, hn], fun _ => rfl⟩
    all_goals
      obtain ⟨rfl, hK⟩ := h
      refine ⟨_, _, hK, ?_, fun _ => rfl⟩
      first
        | (simp [hg, binOp, Op.intArith]; done)
        | (simp [hg, binOp, Op.intCmp]; done)
        | (simp [hg, go_sem]; done)
        | (simp [hg, binOp, Op.intCmp, bne, BEq.beq]; done)
  · rename_i m n
    obtain rfl := ha
    obtain rfl := hb
    have hbt : boolT P t = true → P.underlying t = some .bool := by
      unfold boolT; split
      · rename_i e; exact fun _ => e
      · intro h; cases h
    cases op <;> simp only [] at h
    case eql =>
      refine ⟨_, _, h.2, ?_, fun _ => rfl⟩
      simp only [eqGuard, Sem.run_bind]
      simp [run_eql_bool w t m n (hbt h.1)]
    case neq =>
      refine ⟨_, _, h.2, ?_, fun _ => rfl⟩
      simp only [eqGuard, Sem.run_bind]
      simp [run_neq_bool w t m n (hbt h.1), bne]
    all_goals exact h.elim
  · rename_i m n
    obtain rfl := ha
    obtain rfl := hb
    have hd : (m.toList == n.toList) = decide (m = n) := by
      rw [Bool.eq_iff_iff]
      simp only [beq_iff_eq, decide_eq_true_eq, ByteArray.toList_eq]
      exact ⟨fun e => Go.WideShapes.bytes_inj e, fun e => by rw [e]⟩
    cases op <;> simp only [forall_const] at h
    case add =>
      refine ⟨_, _, h.2, ?_, fun _ => rfl⟩
      have : ¬ (((m.size + n.size : Nat) : Int) > IntKind.i64.max) := by simp [IntKind.max, IntKind.signed, IntKind.bits]; have := h.1; omega
      simp only [eqGuard, binOp_string_add, Op.stringOp, if_neg this, Sem.run_bind]
      simp
    case eql => exact ⟨_, _, h, by simp [eqGuard, binOp_string_eql, hd], fun _ => rfl⟩
    case neq => exact ⟨_, _, h, by simp [eqGuard, binOp_string_neq, hd], fun _ => rfl⟩
    all_goals exact h.elim
  · obtain ⟨us, rfl, ha⟩ := ha
    obtain ⟨vs, rfl, hb⟩ := hb
    cases op <;> simp only [] at h
    case eql =>
      obtain ⟨r, h1, h2, h3⟩ := eqA_sound (w := w) h ha hb
      exact ⟨_, _, h1, by rw [Sem.run_bind, run_eqGuard_agg w .eql t x y _ _ h3, Result.andThen_ok, run_eql_struct w t, h2]; rfl, fun _ => rfl⟩
    case neq =>
      obtain ⟨r, h1, h2, h3⟩ := eqA_sound (w := w) h ha hb
      exact ⟨_, _, h1, by rw [Sem.run_bind, run_eqGuard_agg w .neq t x y _ _ h3, Result.andThen_ok, run_neq_struct w t, h2]; rfl, fun _ => rfl⟩
    all_goals exact h.elim
  · exact absurd h.1 (by simp)

theorem run_un {op : UnOp} {va : AV} {a : Value} {K : AV → Prop} {ρ0 : Env} (h : unVC op va true K) (ha : va.Is ρ0 a) :
    ∃ v u, K v ∧ (Op.unary op a).run P w = .ok u w ∧ ∀ ρ, v.Is ρ u := by
  unfold unVC at h
  split at h
  · obtain rfl := ha
    exact ⟨_, _, h, by simp [Op.unary], fun _ => rfl⟩
  · obtain rfl := ha
    exact ⟨_, _, h, by simp [Op.unary, Op.intArith], fun _ => rfl⟩
  · exact absurd h.1 (by simp)
end
end Go.Eng

