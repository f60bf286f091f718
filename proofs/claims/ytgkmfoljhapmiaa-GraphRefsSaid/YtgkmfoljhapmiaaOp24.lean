/-
From what the interpreter gives, without fuel, to the model's calls; arguments that are only read.
-/
import Derived.Test.YtgkmfoljhapmiaaOp22
import Derived.Test.YtgkmfoljhapmiaaOp23
set_option linter.unusedSimpArgs false
set_option linter.unusedVariables false
namespace Go.Ev
open Go.RowKit

/-- Only blocks that are read. -/
def RoK (K : KM) : Prop := ∀ (b : Nat) (e : KB), K[b]? = some e → ∃ g B S N, e = .c g B S N false

theorem RoK.free [Good] {K : KM} (h : RoK K) (o : Owner) (B : Nat) : ¬ OwnBy K [] o B := by
  intro ho
  cases o with
  | loc s => exact own_nil_loc ho
  | blk b =>
    rcases ho with ⟨g, S, N, k, h1, h2⟩ | h1 | ⟨l, t, h1⟩
    · obtain ⟨_, _, _, _, e⟩ := h b _ h1; cases e; cases h2
    · obtain ⟨_, _, _, _, e⟩ := h b _ h1; cases e
    · obtain ⟨_, _, _, _, e⟩ := h b _ h1; cases e
  | lloc b s =>
    obtain ⟨B', l, ver, h1, _⟩ := ho
    obtain ⟨_, _, _, _, e⟩ := h b _ h1; cases e

theorem Fit.callsN {P : Program} {X : Env} (h : Fit P X) {n : Nat} {f : FuncId} {xs : List V} {hp h' : Heap} {v : V} (hn : callN X n (.fn f []) xs hp = some (v, h')) {K : KM} {w : World}
    (hm : @Mem (goodOf X) K [] [] hp w) (hro : RoK K) {ys : List Value} (hy : VRs K xs ys) :
    Calls P f ys.toArray w fun e w' => (∃ y K', e = .returned y ∧ VR K' v y) ∧ Below w.heap.size w w' := by
  letI := goodOf X
  have h1 := h.spec n _ _ _ _ _ hn K w hm
  have h2 := h1.2 ys (by simpa using hy)
  refine ((callsIn_wide (n := 0)).1 h2).mono fun e w' he => ?_
  cases e with
  | returned y =>
    obtain ⟨K', hv, _, hst⟩ := he
    exact ⟨⟨y, K', rfl, hv⟩, hst.os, hst.tape, hst.output, hst.size, fun k hk => hst.same k hk fun o ho => hro.free o k ho⟩
  | panicked ch => exact he.elim
  | outgrown => exact he.elim

theorem Fit.calls {P : Program} {X : Env} (h : Fit P X) {f : FuncId} {xs : List V} {hp h' : Heap} {v : V} (hD : D X (.fn f []) xs hp = some (v, h')) {K : KM} {w : World}
    (hm : @Mem (goodOf X) K [] [] hp w) (hro : RoK K) {ys : List Value} (hy : VRs K xs ys) :
    Calls P f ys.toArray w fun e w' => (∃ y K', e = .returned y ∧ VR K' v y) ∧ Below w.heap.size w w' := by
  obtain ⟨n, hn⟩ := last_some.1 hD
  exact h.callsN (hn n (Nat.le_refl n)) hm hro hy

/-- A law's run: true. -/
theorem Fit.law {P : Program} {X : Env} (h : Fit P X) {f : FuncId} {xs : List V} {hp h' : Heap} (hD : D X (.fn f []) xs hp = some (.bool true, h')) {K : KM} {w : World}
    (hm : @Mem (goodOf X) K [] [] hp w) (hro : RoK K) {ys : List Value} (hy : VRs K xs ys) :
    Calls P f ys.toArray w fun e w' => e = .returned (.bool true) ∧ Below w.heap.size w w' := by
  refine (h.calls hD hm hro hy).mono fun e w' ⟨⟨y, K', he, hv⟩, hb⟩ => ⟨?_, hb⟩
  rw [he]
  simp only [VR] at hv
  rw [hv]

/-- One more block that is only read. -/
theorem Mem.read [Good] {K : KM} {hp : Heap} {w : World} (hm : Mem K [] [] hp w) (hro : RoK K) {B S : Nat} {c : List V} {c' : Array Value} {ty : TypeId} {fr : Nat × Nat}
    (hB : w.heap[B]? = some (.cells c' ty fr)) (hN : S + c.length ≤ c'.size) (hc : CR K c c' S) :
    Mem (K ++ [.c 0 B S c'.size false]) [] [] (hp ++ [.cells 0 false c]) w ∧ RoK (K ++ [.c 0 B S c'.size false]) := by
  have hle := KM.le_append K (.c 0 B S c'.size false)
  have hro' : RoK (K ++ [.c 0 B S c'.size false]) := by
    intro b e he
    rcases getElem?_snoc he with h1 | ⟨_, h1⟩
    · exact hro b e h1
    · exact ⟨_, _, _, _, h1⟩
  refine ⟨⟨⟨rfl, fun s ver c h => by simp at h⟩, ⟨by simp [hm.hr.1], fun b x hx => ?_⟩, ⟨fun o o' B' h1 _ => absurd h1 (hro'.free o B'), fun o B' h1 => absurd h1 (hro'.free o B'), fun b g B' S' N' hb => ⟨?_, fun o => hro'.free o B'⟩⟩⟩, hro'⟩
  · rcases getElem?_snoc hx with h1 | ⟨h1, rfl⟩
    · obtain ⟨e, he, hb⟩ := hm.hr.2 b x h1
      refine ⟨e, ?_, hb.keep hle fun _ _ => rfl⟩
      rw [List.getElem?_append_left (List.getElem?_eq_some_iff.1 he).1]; exact he
    · refine ⟨.c 0 B S c'.size false, ?_, B, S, c'.size, rfl, c', ty, fr, hB, rfl, hN, hc.mono hle, fun h => by cases h⟩
      rw [h1, hm.hr.1, List.getElem?_append_right (Nat.le_refl _)]; simp
  · rcases getElem?_snoc hb with h1 | ⟨_, h1⟩
    · exact (hm.inv.ro b g B' S' N' h1).1
    · cases h1
      exact (Array.getElem?_eq_some_iff.1 hB).1

theorem mem_nil [Good] (w : World) : Mem [] [] [] [] w ∧ RoK [] :=
  ⟨⟨⟨rfl, fun s ver c h => by simp at h⟩, ⟨rfl, fun b x h => by simp at h⟩, ⟨fun o o' B h1 _ => absurd h1 (RoK.free (fun b e h => by simp at h) o B), fun o B h1 => absurd h1 (RoK.free (fun b e h => by simp at h) o B), fun b g B S N h => by simp at h⟩⟩, fun b e h => by simp at h⟩

/-- A closed run of a function without arguments. -/
theorem Fit.closed {P : Program} {X : Env} (h : Fit P X) {n : Nat} {f : FuncId} {b : Bool}
    (hn : ((callN X n (.fn f []) [] []).map fun r => match r.1 with | .bool b => some b | _ => none) = some (some b)) (w : World) :
    Calls P f #[] w fun e w' => e = .returned (.bool b) ∧ Below w.heap.size w w' := by
  letI := goodOf X
  cases hc : callN X n (.fn f []) [] [] with
  | none => rw [hc] at hn; cases hn
  | some r =>
    obtain ⟨v, h'⟩ := r
    rw [hc] at hn
    simp only [Option.map_some, Option.some.injEq] at hn
    obtain ⟨hm, hro⟩ := mem_nil w
    refine (h.callsN hc hm hro (ys := []) rfl).mono fun e w' ⟨⟨y, K', he, hv⟩, hb⟩ => ⟨?_, hb⟩
    rw [he]
    cases v <;> simp at hn
    subst hn
    simp only [VR] at hv
    rw [hv]

def Env.pins (X : Env) (p : FuncId → Option Bool) : Env := { X with pin := p }

theorem codeChk_pins (X : Env) (p : FuncId → Option Bool) (f : FuncId) : ∀ c : Code, codeChk (X.pins p) f c = codeChk X f c := by
  intro c
  induction c with
  | region id ops draw => rfl
  | seq a b iha ihb => simp only [codeChk, iha, ihb]
  | cond c a b iha ihb => simp only [codeChk, iha, ihb]
  | block id c ih => simp only [codeChk, ih]
  | scope c ih => simp only [codeChk, ih]
  | loop c ih => simp only [codeChk, ih]
  | rangeFunc g ps a b iha ihb => simp only [codeChk, iha, ihb]
  | _ => rfl

theorem bodyChk_pins (X : Env) (p : FuncId → Option Bool) (P : Program) (f : FuncId) : bodyChk (X.pins p) P f = bodyChk X P f := by
  unfold bodyChk
  split
  · split
    · rw [codeChk_pins]
    · rfl
  · rfl

theorem Fit.pinsFit {P : Program} {X : Env} (h : Fit P X) {p : FuncId → Option Bool}
    (hp : ∀ f b, p f = some b → (bodyOf P f).isSome = true ∧ ∀ w, Calls P f #[] w fun e w' => e = .returned (.bool b) ∧ Below w.heap.size w w') : Fit P (X.pins p) :=
  ⟨h.ty, h.body, h.mixed, h.types, fun f hf => (bodyChk_pins X p P f).trans (h.bodies f hf), hp⟩

end Go.Ev
