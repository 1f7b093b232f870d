/- line: strings.Join, strings.ContainsAny, by the kit's contracts. -/
import Derived.Test.YtffbhimjpibocaaFn7
import Derived.Shelf.Strings.OnBuilder
import Derived.Shelf.Strings.IndexAnyAll
set_option linter.unusedVariables false
set_option linter.unusedSimpArgs false
set_option linter.unusedSectionVars false
namespace Go.Eng
open Go.RowKit
theorem Mt_below {W : Nat → Prop} {w0 : World} {ρ0 : Env} {S : St} {a : Act} {w w' : World} (hm : Mt W w0 ρ0 S a w) (h : Below w.heap.size w w') : Mt W w0 ρ0 S a w' := by
  intro ρ hρ
  have hr := hm ρ hρ
  have hold : ∀ b, b < w.heap.size → w'.heap[b]? = w.heap[b]? := h.block
  have hf := hr.fr
  have hsz := h.size
  exact ⟨⟨fun x g h => RegOk_old hold (hr.mem.regs x g h), hr.mem.dis, hr.mem.wr, fun x g i h hh => by have := hr.mem.lt x g i h hh; omega⟩, ⟨h.os.trans hf.os, h.tape.trans hf.tape, h.output.trans hf.output, by have := hf.size; omega, fun b hb hw => by rw [hold b (by have := hf.size; omega)]; exact hf.block b hb hw⟩, hr.size, hr.tmps, hr.defers⟩
def Env.oneUp (ρ0 : Env) : Env := ⟨fun x i => match x with | .out y => ρ0.blk y i | _ => 0, fun x i => match x with | .out y => ρ0.base y i | _ => 0, fun x => match x with | .out y => ρ0.sz y | _ => 0⟩
theorem Mt_enter0 {W : Nat → Prop} {ρ0 : Env} {M : RId → Option Rg} {w : World} (hin : ∀ ρ, Agree M ρ0 ρ → MemOk W w.heap.size ρ M w) : Mt W w ρ0.oneUp (St.enter 0 [] M) { tmps := #[], defers := [] } w := by
  intro ρ hρ
  have hag : Agree M ρ0 (ρ.pull .out) := fun x g e => by
    have := hρ (.out x) g.up (by rw [look_enter]; simp [e])
    exact ⟨fun i => this.blk i, fun i => this.base i, this.sz⟩
  have hM := hin _ hag
  have hlk : ∀ x g, (St.enter 0 [] M).look x = some g → ∃ y g0, x = .out y ∧ M y = some g0 ∧ g = g0.map .out := by
    intro x g e
    rw [look_enter] at e
    cases x with
    | out y =>
      cases hy : M y with
      | none => simp [hy] at e
      | some g0 => simp [hy] at e; exact ⟨y, g0, rfl, hy, by rw [← e, Rg.up_map]⟩
    | _ => cases e
  refine ⟨⟨fun x g e => ?_, fun x g i x' g' i' e ho hh e' hh' hne => ?_, fun x g i e ho hh => ?_, fun x g i e hh => ?_⟩, ⟨rfl, rfl, rfl, Nat.le_refl _, fun _ _ _ => rfl⟩, rfl, fun t s e => ?_, rfl⟩
  · obtain ⟨y, g0, rfl, hy, rfl⟩ := hlk x g e
    exact RegOk_map.2 (hM.regs y g0 hy)
  · obtain ⟨y, g0, rfl, hy, rfl⟩ := hlk x g e
    obtain ⟨y', g0', rfl, hy', rfl⟩ := hlk x' g' e'
    exact hM.dis y g0 i y' g0' i' hy (by rwa [Rg.own_map] at ho) ((Rg.has_map _ _ _).1 hh) hy' ((Rg.has_map _ _ _).1 hh') (hne.imp (fun h e => h (by rw [e])) id)
  · obtain ⟨y, g0, rfl, hy, rfl⟩ := hlk x g e
    exact hM.wr y g0 i hy (by rwa [Rg.own_map] at ho) ((Rg.has_map _ _ _).1 hh)
  · obtain ⟨y, g0, rfl, hy, rfl⟩ := hlk x g e
    exact hM.lt y g0 i hy ((Rg.has_map _ _ _).1 hh)
  · simp [St.enter] at e
theorem callOK_below {P : Program} {f : FuncId} {args : List AV} {M : RId → Option Rg} {val : AV} {v : Value} (hv : ∀ ρ, val.Is ρ v)
    (h : ∀ (W : Nat → Prop) (ρ0 : Env) (w : World) (vs : List Value), MemOk W w.heap.size ρ0 M w → Args ρ0 args vs → Calls P f vs.toArray w fun e w' => e = .returned v ∧ Below w.heap.size w w') :
    CallOK P f args M Unit (fun _ => True) (fun _ => val) (fun _ => []) (fun _ => []) := by
  intro W ρ0 w vs hnil hin
  obtain ⟨hm, hA⟩ := hin ρ0 (Agree.refl _ _)
  refine (h W ρ0 w vs hm hA).mono ?_
  rintro e w' ⟨rfl, hb⟩
  have hm0 := Mt_enter0 (ρ0 := ρ0) (M := M) (W := W) (w := w) fun ρ hρ => (hin ρ hρ).1
  have hm2 := Mt_below hm0 hb
  have haft : aft M [] [] = (St.enter 0 [] M).look := by
    funext x
    rw [look_enter]
    cases x <;> simp [aft, findO]
  refine ⟨(), ρ0.oneUp, v, trivial, rfl, (hm2 _ (Agree.refl _ _)).fr, fun _ _ => rfl, fun _ _ => rfl, fun _ => rfl, fun p hp => by simp at hp, fun ρ hρ => ⟨?_, hv ρ⟩⟩
  rw [haft] at hρ ⊢
  exact (hm2 ρ hρ).mem
/-- the strings of a row, as they lie in memory -/
theorem row_cells {W : Nat → Prop} {n0 : Nat} {ρ0 : Env} {M : RId → Option Rg} {w : World} {a : AA} {n : Nat} (hm : MemOk W n0 ρ0 M w) (h : RowOk ByteArray a n (M a.r)) (h1 : 1 ≤ n) :
    ρ0.blk a.r a.i < w.heap.size ∧ ∀ (j : Nat) x, (row ByteArray a n (M a.r))[j]? = some x → w.cell? ⟨ρ0.blk a.r a.i, (a.conc ρ0).off + j, none⟩ = some (.string x) := by
  obtain ⟨hs, X, hX, rfl, hat⟩ := h.x
  obtain ⟨own, ty, cnt, cap, len, get, hM, hf, hic, hkn, hget⟩ := hat (by omega)
  obtain ⟨hsz, hreg⟩ := hm.regs _ _ hM
  obtain ⟨hle, hcell, _⟩ := hreg a.i hic
  refine ⟨hm.lt _ _ _ hM ⟨hic, by omega⟩, fun j x hj => ?_⟩
  rw [hX] at hj
  have hjl : j < X.length := (List.getElem?_eq_some_iff.1 hj).1
  have hx : X.getD j default = x := by rw [List.getD_eq_getElem?_getD, hj]; rfl
  obtain ⟨_, hk2⟩ := hcell (a.k + j) (by omega)
  have he := hget j hjl
  rw [hx] at he
  obtain ⟨v, hv, hvi⟩ := hk2 0 (AC.str x) (by rw [he]; rfl)
  have hvi : v = _ := hvi
  rw [hvi] at hv
  have hsz1 : Cel.sz ByteArray = 1 := rfl
  have e : (a.conc ρ0).off + j = ρ0.base a.r a.i + ((a.k + j) * Cel.sz ByteArray + 0) := by
    rw [conc_eq, hsz, hf, hsz1]
    show ρ0.base a.r a.i + (a.k * 1 + 0) + j = _
    omega
  rw [e]
  exact hv
end Go.Eng
namespace Go.Eng.T
open Go.Proofs Go.Shelf Go.RowKit
set_option maxRecDepth 100000
set_option maxHeartbeats 8000000
def lays150_ren : Ren := ⟨fun | 150 => 32 | 153 => 39 | 152 => 42 | 226 => 43 | 227 => 44 | 228 => 45 | 137 => 48 | 119 => 49 | 224 => 50 | 225 => 51 | 217 => 52 | 266 => 53 | n => n, fun | 9 => 9 | 4 => 4 | 3 => 3 | 5 => 5 | 21 => 21 | 117 => 74 | 116 => 73 | 0 => 0 | 46 => 82 | 124 => 83 | n => n, fun | n => n⟩
theorem lays150 : Lays.n150 Try.prog lays150_ren where
  mixed := by kernel_rfl
  f119 := Try.func49.trans (congrArg some (by kernel_rfl))
  f137 := Try.func48.trans (congrArg some (by kernel_rfl))
  f150 := Try.func32.trans (congrArg some (by kernel_rfl))
  f152 := Try.func42.trans (congrArg some (by kernel_rfl))
  f153 := Try.func39.trans (congrArg some (by kernel_rfl))
  f217 := Try.func52.trans (congrArg some (by kernel_rfl))
  f224 := Try.func50.trans (congrArg some (by kernel_rfl))
  f225 := Try.func51.trans (congrArg some (by kernel_rfl))
  f226 := Try.func43.trans (congrArg some (by kernel_rfl))
  f227 := Try.func44.trans (congrArg some (by kernel_rfl))
  f228 := Try.func45.trans (congrArg some (by kernel_rfl))
  f266 := Try.func53.trans (congrArg some (by kernel_rfl))
  t0 := Try.underlying0
  a0 := Try.isAgg0
  z0 := Try.sizeOf0
  v0 := Try.zeroValue0
  t3 := Try.underlying3
  a3 := Try.isAgg3
  z3 := Try.sizeOf3
  v3 := Try.zeroValue3
  t4 := Try.underlying4
  a4 := Try.isAgg4
  z4 := Try.sizeOf4
  v4 := Try.zeroValue4
  t5 := Try.underlying5
  a5 := Try.isAgg5
  z5 := Try.sizeOf5
  v5 := Try.zeroValue5
  t9 := Try.underlying9
  a9 := Try.isAgg9
  z9 := Try.sizeOf9
  v9 := Try.zeroValue9
  t21 := Try.underlying21
  a21 := Try.isAgg21
  z21 := Try.sizeOf21
  v21 := Try.zeroValue21
  t46 := Try.underlying82
  a46 := Try.isAgg82
  z46 := Try.sizeOf82
  v46 := Try.zeroValue82
  t116 := Try.underlying73
  a116 := Try.isAgg73
  z116 := Try.sizeOf73
  t117 := Try.underlying74
  a117 := Try.isAgg74
  z117 := Try.sizeOf74
  v117 := Try.zeroValue74
  t124 := Try.underlying83
  a124 := Try.isAgg83
  z124 := Try.sizeOf83
  v124 := Try.zeroValue83
def lays156_ren : Ren := ⟨fun | 156 => 25 | 165 => 33 | 166 => 34 | 169 => 35 | 240 => 40 | 241 => 41 | 276 => 46 | 277 => 47 | n => n, fun | 31 => 37 | 9 => 9 | 3 => 3 | 4 => 4 | 0 => 0 | 20 => 20 | 72 => 58 | 76 => 62 | 70 => 56 | 37 => 53 | 75 => 61 | 127 => 69 | 164 => 76 | 5 => 5 | 80 => 64 | n => n, fun | n => n⟩
theorem lays156 : Lays.n156 Try.prog lays156_ren where
  mixed := by kernel_rfl
  f156 := Try.func25.trans (congrArg some (by kernel_rfl))
  f165 := Try.func33.trans (congrArg some (by kernel_rfl))
  f166 := Try.func34.trans (congrArg some (by kernel_rfl))
  f169 := Try.func35.trans (congrArg some (by kernel_rfl))
  f240 := Try.func40.trans (congrArg some (by kernel_rfl))
  f241 := Try.func41.trans (congrArg some (by kernel_rfl))
  f276 := Try.func46.trans (congrArg some (by kernel_rfl))
  f277 := Try.func47.trans (congrArg some (by kernel_rfl))
  t0 := Try.underlying0
  a0 := Try.isAgg0
  z0 := Try.sizeOf0
  v0 := Try.zeroValue0
  t3 := Try.underlying3
  a3 := Try.isAgg3
  z3 := Try.sizeOf3
  v3 := Try.zeroValue3
  t4 := Try.underlying4
  a4 := Try.isAgg4
  z4 := Try.sizeOf4
  v4 := Try.zeroValue4
  t9 := Try.underlying9
  a9 := Try.isAgg9
  z9 := Try.sizeOf9
  v9 := Try.zeroValue9
  t20 := Try.underlying20
  a20 := Try.isAgg20
  z20 := Try.sizeOf20
  v20 := Try.zeroValue20
  t31 := Try.underlying37
  a31 := Try.isAgg37
  z31 := Try.sizeOf37
  v31 := Try.zeroValue37
  t37 := Try.underlying53
  a37 := Try.isAgg53
  z37 := Try.sizeOf53
  v37 := Try.zeroValue53
  t70 := Try.underlying56
  a70 := Try.isAgg56
  z70 := Try.sizeOf56
  v70 := Try.zeroValue56
  t72 := Try.underlying58
  a72 := Try.isAgg58
  z72 := Try.sizeOf58
  v72 := Try.zeroValue58
  t75 := Try.underlying61
  a75 := Try.isAgg61
  z75 := Try.sizeOf61
  v75 := Try.zeroValue61
  t76 := Try.underlying62
  a76 := Try.isAgg62
  z76 := Try.sizeOf62
  v76 := Try.zeroValue62
  t127 := Try.underlying69
  a127 := Try.isAgg69
  z127 := Try.sizeOf69
  v127 := Try.zeroValue69
  t164 := Try.underlying76
  a164 := Try.isAgg76
  z164 := Try.sizeOf76
  v164 := Try.zeroValue76
theorem extra156 : Builder.Extra Try.prog lays156_ren where
  sizeBuilder := by kernel_rfl
  liesBuilder := by kernel_rfl
  t5 := Try.underlying5
  a5 := Try.isAgg5
  z5 := Try.sizeOf5
  v5 := Try.zeroValue5
  infoByte := by kernel_rfl
  cellsByte := by kernel_rfl
  sizeByte := by kernel_rfl
  neB5 := by decide
def c_strings_Join : Contract := ⟨25, fun args M => match args with
  | [.c (.sl a n c), .c (.str sep)] => .pure ((RowOk ByteArray a n (M a.r) ∧ n ≤ c) ∧ 1 ≤ n ∧ (Lib.join ((row ByteArray a n (M a.r)).map fun x : ByteArray => x.data.toList) sep.data.toList).length ≤ 100000) (.c (.str ⟨(Lib.join ((row ByteArray a n (M a.r)).map fun x : ByteArray => x.data.toList) sep.data.toList).toArray⟩))
  | _ => .bad⟩
theorem ok_strings_Join : fnP Try.prog c_strings_Join.f = true ∧ ∀ args M, (c_strings_Join.sp args M).OK Try.prog c_strings_Join.f args M := by
  refine ⟨fp_25, fun args M => ?_⟩
  unfold c_strings_Join
  dsimp only
  split
  case h_2 => trivial
  rename_i a n c sep
  rintro ⟨⟨hrow, hc⟩, h1, hl⟩
  refine callOK_below (v := .string ⟨(Lib.join ((row ByteArray a n (M a.r)).map fun x : ByteArray => x.data.toList) sep.data.toList).toArray⟩) (fun ρ => rfl) fun W ρ0 w vs hm hA => ?_
  obtain ⟨hb, hcells⟩ := row_cells hm hrow h1
  have hlen := row_length (α := ByteArray) a n (M a.r)
  have hsm := hrow.small
  match vs, hA with
  | [u, v], ⟨hu, hv, _⟩ =>
    obtain ⟨o, rfl, _, ho⟩ := hu
    obtain rfl : v = .string sep := hv
    obtain rfl := ho (by omega)
    have := Any.strings_Join lays156 extra156 (ρ0.blk a.r a.i) (a.conc ρ0).off c (row ByteArray a n (M a.r)) sep w hcells hb (by omega) (by omega) (by omega)
    rw [hlen] at this
    exact this
def c_strings_ContainsAny : Contract := ⟨32, fun args M => match args with
  | [.c (.str s), .c (.str ch)] => .pure ((s.size ≤ 1000 ∧ ch.size ≤ 1000) ∧ (∀ (j : Nat) b, s.data.toList[j]? = some b → b.toNat < 128) ∧ ∀ (j : Nat) b, ch.data.toList[j]? = some b → b.toNat < 128) (Eng.B (Lib.containsAny s.data.toList ch.data.toList))
  | _ => .bad⟩
theorem ok_strings_ContainsAny : fnP Try.prog c_strings_ContainsAny.f = true ∧ ∀ args M, (c_strings_ContainsAny.sp args M).OK Try.prog c_strings_ContainsAny.f args M := by
  refine ⟨fp_32, fun args M => ?_⟩
  unfold c_strings_ContainsAny
  dsimp only
  split
  case h_2 => trivial
  rename_i s ch
  rintro ⟨⟨h1, h2⟩, h3, h4⟩
  refine callOK_below (v := .bool (Lib.containsAny s.data.toList ch.data.toList)) (fun ρ => rfl) fun W ρ0 w vs hm hA => ?_
  match vs, hA with
  | [u, v], ⟨hu, hv, _⟩ =>
    obtain rfl : u = .string s := hu
    obtain rfl : v = .string ch := hv
    exact Any.strings_ContainsAny_laid lays150 (by kernel_rfl) s ch w (by omega) (by omega) h3 h4
end Go.Eng.T
