/-
What ties the interpreter's states to the model's: values, temporaries, the frame's own memory, the heap; who owns which block.
-/
import Derived.Test.YtgkmfoljhapmiaaMach
import Derived.RangeFuncIn
import Derived.Below
set_option linter.unusedSimpArgs false
set_option linter.unusedVariables false
namespace Go.Ev

/-- Of a block of the interpreter: its generation, the model's block, where it begins there, how many cells that one has; a map's block; a loop's record and its frame's memory. -/
inductive KB where
  | c (g B S N : Nat) (k : Bool)
  | m (B : Nat)
  | l (B : Nat) (kl : List (Nat × Nat)) (t : Bool)
  deriving Inhabited

abbrev KM := List KB
abbrev KL := List (Nat × Nat)

def AtR (K : KM) (b g o : Nat) (a : Addr) : Prop :=
  ∃ g' B S N k, K[b]? = some (.c g' B S N k) ∧ g ≤ g' ∧ (g = g' → a = ⟨B, S + o, none⟩)

def RoomR (K : KM) (b g o cap z : Nat) : Prop :=
  ∀ g' B S N k, K[b]? = some (.c g' B S N k) → g = g' → S + o + cap * z ≤ N

def SlR (K : KM) : SA → Nat → Nat → Nat → Value → Prop
  | .nil, len, cap, z, x => len = 0 ∧ cap = 0 ∧ z = 0 ∧ x = .slice none 0 0
  | .at b g o, len, cap, z, x => ∃ a cap', x = .slice (some a) len cap' ∧ AtR K b g o a ∧ cap ≤ cap' ∧ (z = 0 → cap' = cap) ∧ (0 < z → RoomR K b g o cap' z)
  | .any, len, cap, z, x => len = 0 ∧ cap = 0 ∧ 0 < z ∧ ∃ a cap', x = .slice (some a) 0 cap'

mutual
def VR (K : KM) : V → Value → Prop
  | .bool b, x => x = .bool b
  | .int k n, x => x = .int k n
  | .str s, x => x = .string s
  | .nilp, x => x = .pointer none
  | .ptr b g o, x => ∃ a, x = .pointer (some a) ∧ AtR K b g o a
  | .sl a len cap ex, x => SlR K a len cap ex x
  | .nilm, x => x = .map none
  | .map r, x => ∃ B, K[r]? = some (.m B) ∧ x = .map (some B)
  | .fn f cap, x => ∃ cs, x = .func (.func f) #[] cs ∧ VRs K cap cs.toList
  | .yld l, x => ∃ B kl t, K[l]? = some (.l B kl t) ∧ x = .func (.yield B) #[] #[]
  | .nilFn, x => x = .nilFunc
  | .agg cs, x => ∃ cs', x = .agg cs' ∧ VRs K cs cs'.toList ∧ cs.all isCell = true
  | .tup vs, x => ∃ vs', x = .tuple vs' ∧ VRs K vs vs'.toList
def VRs (K : KM) : List V → List Value → Prop
  | [], xs => xs = []
  | v :: vs, xs => ∃ y ys, xs = y :: ys ∧ VR K v y ∧ VRs K vs ys
end

def KB.le : KB → KB → Prop
  | .c g B S N k, e => ∃ g' B' S' N' k', e = .c g' B' S' N' k' ∧ (g < g' ∨ (g = g' ∧ B = B' ∧ S = S' ∧ N = N' ∧ k = k'))
  | .m B, e => e = .m B
  | .l B _ _, e => ∃ kl t, e = .l B kl t

def KM.le (K K' : KM) : Prop := ∀ (b : Nat) (e : KB), K[b]? = some e → ∃ e' : KB, K'[b]? = some e' ∧ e.le e'

theorem KB.le_refl (e : KB) : e.le e := by
  cases e with
  | c g B S N k => exact ⟨g, B, S, N, k, rfl, .inr ⟨rfl, rfl, rfl, rfl, rfl⟩⟩
  | m B => rfl
  | l B kl t => exact ⟨kl, t, rfl⟩

theorem KB.le_trans {a b c : KB} (h : a.le b) (h' : b.le c) : a.le c := by
  cases a with
  | c g B S N k =>
    obtain ⟨g1, B1, S1, N1, k1, rfl, h1⟩ := h
    obtain ⟨g2, B2, S2, N2, k2, rfl, h2⟩ := h'
    refine ⟨g2, B2, S2, N2, k2, rfl, ?_⟩
    rcases h1 with h1 | ⟨rfl, rfl, rfl, rfl, rfl⟩
    · rcases h2 with h2 | ⟨rfl, _⟩
      · exact .inl (Nat.lt_trans h1 h2)
      · exact .inl h1
    · exact h2
  | m B => cases h; cases h'; rfl
  | l B kl t => obtain ⟨kl1, t1, rfl⟩ := h; obtain ⟨kl2, t2, rfl⟩ := h'; exact ⟨kl2, t2, rfl⟩

theorem KM.le_refl (K : KM) : KM.le K K := fun _ e h => ⟨e, h, e.le_refl⟩

theorem KM.le_trans {K K' K'' : KM} (h : KM.le K K') (h' : KM.le K' K'') : KM.le K K'' := fun b e he =>
  let ⟨e', h1, l1⟩ := h b e he
  let ⟨e'', h2, l2⟩ := h' b e' h1
  ⟨e'', h2, KB.le_trans l1 l2⟩

theorem KM.le_append (K : KM) (e : KB) : KM.le K (K ++ [e]) := fun b x hx => by
  refine ⟨x, ?_, x.le_refl⟩
  rw [List.getElem?_append_left (List.getElem?_eq_some_iff.1 hx).1]; exact hx

theorem KM.le_set (K : KM) (b : Nat) (e e' : KB) (h : K[b]? = some e) (hle : e.le e') : KM.le K (K.set b e') := fun i x hx => by
  by_cases hi : i = b
  · subst hi
    rw [h] at hx; cases hx
    exact ⟨e', by rw [List.getElem?_set]; simp [(List.getElem?_eq_some_iff.1 h).1], hle⟩
  · exact ⟨x, by rw [List.getElem?_set]; simp [Ne.symm hi, hx], x.le_refl⟩

theorem AtR.mono {K K' : KM} (hle : KM.le K K') {b g o : Nat} {a : Addr} (h : AtR K b g o a) : AtR K' b g o a := by
  obtain ⟨g', B, S, N, k, hb, hg, ha⟩ := h
  obtain ⟨e, he, g1, B1, S1, N1, k1, rfl, h1⟩ := hle b _ hb
  refine ⟨g1, B1, S1, N1, k1, he, ?_, ?_⟩
  · rcases h1 with h1 | ⟨h1, _⟩ <;> omega
  · intro e
    rcases h1 with h1 | ⟨rfl, rfl, rfl, rfl, rfl⟩
    · omega
    · exact ha e

theorem RoomR.mono {K K' : KM} (hle : KM.le K K') {b g o cap z : Nat} {a : Addr} (hat : AtR K b g o a) (h : RoomR K b g o cap z) : RoomR K' b g o cap z := by
  intro g' B S N k hb e
  obtain ⟨g1, B1, S1, N1, k1, hb1, hg1, _⟩ := hat
  obtain ⟨e2, he2, g2, B2, S2, N2, k2, rfl, h2⟩ := hle b _ hb1
  rw [hb] at he2; cases he2
  rcases h2 with h2 | ⟨rfl, rfl, rfl, rfl, rfl⟩
  · omega
  · exact h _ _ _ _ _ hb1 e

theorem SlR.mono {K K' : KM} (hle : KM.le K K') {a : SA} {n c ex : Nat} {x : Value} (h : SlR K a n c ex x) : SlR K' a n c ex x := by
  cases a with
  | nil => exact h
  | any => exact h
  | «at» b g o =>
    obtain ⟨a, cap', rfl, hat, hc, h1, h2⟩ := h
    exact ⟨a, cap', rfl, hat.mono hle, hc, h1, fun e => (h2 e).mono hle hat⟩

mutual
theorem VR.mono {K K' : KM} (hle : KM.le K K') : ∀ (v : V) (x : Value), VR K v x → VR K' v x
  | .bool b, x, h => by simpa only [VR] using h
  | .int k n, x, h => by simpa only [VR] using h
  | .str s, x, h => by simpa only [VR] using h
  | .nilp, x, h => by simpa only [VR] using h
  | .ptr b g o, x, h => by simp only [VR] at h ⊢; exact let ⟨a, e, h⟩ := h; ⟨a, e, h.mono hle⟩
  | .sl a n c ex, x, h => by simp only [VR] at h ⊢; exact h.mono hle
  | .nilm, x, h => by simpa only [VR] using h
  | .map r, x, h => by
    simp only [VR] at h ⊢
    obtain ⟨B, h, e⟩ := h
    obtain ⟨e', he', hl⟩ := hle r _ h
    cases hl; exact ⟨B, he', e⟩
  | .fn f cap, x, h => by simp only [VR] at h ⊢; exact let ⟨cs, e, h⟩ := h; ⟨cs, e, VRs.mono hle _ _ h⟩
  | .yld l, x, h => by
    simp only [VR] at h ⊢
    obtain ⟨B, kl, t, h, e⟩ := h
    obtain ⟨e', he', kl', t', rfl⟩ := hle l _ h
    exact ⟨B, kl', t', he', e⟩
  | .nilFn, x, h => by simpa only [VR] using h
  | .agg cs, x, h => by simp only [VR] at h ⊢; exact let ⟨cs', e, h, hc⟩ := h; ⟨cs', e, VRs.mono hle _ _ h, hc⟩
  | .tup vs, x, h => by simp only [VR] at h ⊢; exact let ⟨vs', e, h⟩ := h; ⟨vs', e, VRs.mono hle _ _ h⟩
theorem VRs.mono {K K' : KM} (hle : KM.le K K') : ∀ (vs : List V) (xs : List Value), VRs K vs xs → VRs K' vs xs
  | [], xs, h => by simpa only [VRs] using h
  | v :: vs, xs, h => by simp only [VRs] at h ⊢; exact let ⟨y, ys, e, h1, h2⟩ := h; ⟨y, ys, e, VR.mono hle v y h1, VRs.mono hle vs ys h2⟩
end

theorem VRs.length {K : KM} : ∀ {vs : List V} {xs : List Value}, VRs K vs xs → xs.length = vs.length
  | [], xs, h => by simp only [VRs] at h; simp [h]
  | v :: vs, xs, h => by simp only [VRs] at h; obtain ⟨y, ys, rfl, _, h2⟩ := h; simp [h2.length]

theorem VRs.get {K : KM} : ∀ {vs : List V} {xs : List Value}, VRs K vs xs → ∀ (i : Nat) (v : V), vs[i]? = some v → ∃ x, xs[i]? = some x ∧ VR K v x
  | [], xs, h, i, v, hi => by simp at hi
  | v :: vs, xs, h, i, u, hi => by
    simp only [VRs] at h
    obtain ⟨y, ys, rfl, h1, h2⟩ := h
    cases i with
    | zero => simp at hi; subst hi; exact ⟨y, by simp, h1⟩
    | succ i => simpa using h2.get i u (by simpa using hi)

theorem VRs.of_get {K : KM} : ∀ {vs : List V} {xs : List Value}, xs.length = vs.length → (∀ (i : Nat) (v : V), vs[i]? = some v → ∃ x, xs[i]? = some x ∧ VR K v x) → VRs K vs xs
  | [], xs, hl, h => by simp only [VRs]; simpa using hl
  | v :: vs, [], hl, h => by simp at hl
  | v :: vs, x :: xs, hl, h => by
    simp only [VRs]
    refine ⟨x, xs, rfl, ?_, VRs.of_get (by simpa using hl) (fun i v hi => by simpa using h (i + 1) v (by simpa using hi))⟩
    obtain ⟨y, hy, h1⟩ := h 0 v (by simp)
    simp at hy; subst hy; exact h1

theorem VRs.append {K : KM} : ∀ {vs ws : List V} {xs ys : List Value}, VRs K vs xs → VRs K ws ys → VRs K (vs ++ ws) (xs ++ ys)
  | [], ws, xs, ys, h, h' => by simp only [VRs] at h; subst h; simpa using h'
  | v :: vs, ws, xs, ys, h, h' => by
    simp only [VRs] at h
    obtain ⟨y, ys', rfl, h1, h2⟩ := h
    simp only [List.cons_append, VRs]
    exact ⟨y, _, rfl, h1, h2.append h'⟩

theorem VRs.take {K : KM} {vs : List V} {xs : List Value} (h : VRs K vs xs) (n : Nat) : VRs K (vs.take n) (xs.take n) :=
  .of_get (by simp [h.length]) fun i v hi => by
    rw [List.getElem?_take] at hi ⊢
    split at hi
    · rename_i hlt; rw [if_pos hlt]; exact h.get i v hi
    · cases hi

theorem VRs.drop {K : KM} {vs : List V} {xs : List Value} (h : VRs K vs xs) (n : Nat) : VRs K (vs.drop n) (xs.drop n) :=
  .of_get (by simp [h.length]) fun i v hi => by
    rw [List.getElem?_drop] at hi ⊢
    exact h.get _ v hi

theorem VRs.set {K : KM} {vs : List V} {xs : List Value} (h : VRs K vs xs) (n : Nat) {v : V} {x : Value} (hv : VR K v x) : VRs K (vs.set n v) (xs.set n x) :=
  .of_get (by simp [h.length]) fun i u hi => by
    rw [List.getElem?_set] at hi ⊢
    by_cases e : n = i
    · subst e
      simp only [if_true] at hi ⊢
      rw [h.length]
      split at hi
      · rename_i hlt; cases hi; rw [if_pos hlt]; exact ⟨x, rfl, hv⟩
      · cases hi
    · simp only [if_neg e] at hi ⊢
      exact h.get i u hi

/-- Cells of the interpreter's, and of the model's, from S on. -/
def CR (K : KM) (cs : List V) (c : Array Value) (S : Nat) : Prop := ∀ (j : Nat) (v : V), cs[j]? = some v → isCell v = true ∧ ∃ x, c[S + j]? = some x ∧ VR K v x

theorem CR.mono {K K' : KM} (hle : KM.le K K') {cs : List V} {c : Array Value} {S : Nat} (h : CR K cs c S) : CR K' cs c S := fun j v hj =>
  let ⟨h1, x, h2, h3⟩ := h j v hj; ⟨h1, x, h2, VR.mono hle _ _ h3⟩

theorem isCell_of {K : KM} {v : V} {x : Value} (h : VR K v x) (hc : isCell v = true) : x.oneCell' = true := by
  cases v <;> simp only [VR] at h <;> first | (simp [isCell] at hc; done) | (subst h; rfl) | skip
  · obtain ⟨a, rfl, _⟩ := h; rfl
  · rename_i a n c ex
    cases a <;> simp only [SlR] at h
    · obtain ⟨_, _, _, rfl⟩ := h; rfl
    · obtain ⟨_, _, rfl, _⟩ := h; rfl
    · obtain ⟨_, _, _, _, _, rfl⟩ := h; rfl
  · obtain ⟨B, _, rfl⟩ := h; rfl
  · obtain ⟨cs, rfl, _⟩ := h; rfl
  · obtain ⟨B, kl, _, _, rfl⟩ := h; rfl

/-- A temporary. -/
def TVR (K : KM) (L : KL) : TV → Value → Prop
  | .v x, y => VR K x y
  | .lp s ver o, y => 0 < ver ∧ ∃ cur B, L[s]? = some (cur, B) ∧ ver ≤ cur ∧ ∃ a, y = .pointer (some a) ∧ (ver = cur → a = ⟨B, o, none⟩)
  | .ls s ver o n, y => 0 < ver ∧ ∃ cur B, L[s]? = some (cur, B) ∧ ver ≤ cur ∧ ∃ a cap, y = .slice (some a) n cap ∧ (ver = cur → a = ⟨B, o, none⟩)
  | .u, y => y = undef
  | .bad, _ => True

def KL.le (L L' : KL) : Prop := ∀ (s cur B : Nat), L[s]? = some (cur, B) → ∃ cur' B' : Nat, L'[s]? = some (cur', B') ∧ (cur < cur' ∨ (cur = cur' ∧ B = B'))

theorem KL.le_refl (L : KL) : KL.le L L := fun _ cur B h => ⟨cur, B, h, .inr ⟨rfl, rfl⟩⟩

theorem KL.le_trans {L L' L'' : KL} (h : KL.le L L') (h' : KL.le L' L'') : KL.le L L'' := fun s cur B hs => by
  obtain ⟨c1, B1, h1, l1⟩ := h s cur B hs
  obtain ⟨c2, B2, h2, l2⟩ := h' s c1 B1 h1
  refine ⟨c2, B2, h2, ?_⟩
  rcases l1 with l1 | ⟨rfl, rfl⟩
  · rcases l2 with l2 | ⟨rfl, rfl⟩
    · exact .inl (Nat.lt_trans l1 l2)
    · exact .inl l1
  · exact l2

theorem TVR.mono {K K' : KM} {L L' : KL} (hK : KM.le K K') (hL : KL.le L L') {t : TV} {y : Value} (h : TVR K L t y) : TVR K' L' t y := by
  cases t with
  | v x => exact VR.mono hK _ _ h
  | lp s ver o =>
    obtain ⟨h0, cur, B, hs, hv, a, rfl, ha⟩ := h
    obtain ⟨c', B', h1, h2⟩ := hL s cur B hs
    refine ⟨h0, c', B', h1, ?_, a, rfl, ?_⟩
    · rcases h2 with h2 | ⟨rfl, _⟩ <;> omega
    · intro e
      rcases h2 with h2 | ⟨rfl, rfl⟩
      · omega
      · exact ha e
  | ls s ver o n =>
    obtain ⟨h0, cur, B, hs, hv, a, cap, rfl, ha⟩ := h
    obtain ⟨c', B', h1, h2⟩ := hL s cur B hs
    refine ⟨h0, c', B', h1, ?_, a, cap, rfl, ?_⟩
    · rcases h2 with h2 | ⟨rfl, _⟩ <;> omega
    · intro e
      rcases h2 with h2 | ⟨rfl, rfl⟩
      · omega
      · exact ha e
  | u => exact h
  | bad => exact h

/-- All temporaries. -/
def ER (K : KM) (L : KL) (e : List TV) (t : Array Value) : Prop := e.length = t.size ∧ ∀ (i : Nat) (v : TV), e[i]? = some v → ∃ y, t[i]? = some y ∧ TVR K L v y

theorem ER.mono {K K' : KM} {L L' : KL} (hK : KM.le K K') (hL : KL.le L L') {e : List TV} {t : Array Value} (h : ER K L e t) : ER K' L' e t :=
  ⟨h.1, fun i v hi => let ⟨y, h1, h2⟩ := h.2 i v hi; ⟨y, h1, h2.mono hK hL⟩⟩

/-- The frame's own memory. -/
def LR (K : KM) (L : KL) (l : Locs) (w : World) : Prop :=
  l.length = L.length ∧ ∀ (s ver : Nat) (c : List V), l[s]? = some (ver, c) → ∃ B, L[s]? = some (ver, B) ∧ (0 < ver → ∃ c' e, w.heap[B]? = some (.cells c' e (0, 0)) ∧ c'.size = c.length ∧ CR K c c' 0)

def stateOf : Nat → LoopState
  | 0 => .ready
  | 1 => .busy
  | 2 => .done
  | _ => .exhausted

/-- Which pieces of code, of which function, a loop's record may bear. -/
class Good where
  ok : FuncId → Code → Prop

variable [Good]

structure LoopRel (K : KM) (L : KL) (r : LoopR) (R : Loop) : Prop where
  state : R.state = stateOf r.state
  pending : R.pending = r.pending
  good : Good.ok r.fn r.assign ∧ Good.ok r.fn r.body
  params : R.params = r.params.toArray
  assign : R.assign = r.assign
  body : R.body = r.body
  tmps : ER K L r.e R.tmps

/-- A map's entries, and the model's. -/
structure MapR (K : KM) (es : List ME) (ents : Array MapEntry) (clk : Nat) : Prop where
  size : ents.size = es.length
  at_ : ∀ (i : Nat) (e : ME), es[i]? = some e → ∃ m : MapEntry, ents[i]? = some m ∧ VR K e.1 m.key ∧ VR K e.2.1 m.val ∧ m.born = e.2.2
  keys : (es.map (·.1)).Nodup
  plain : ∀ e ∈ es, plainV e.1 = true
  borns : (es.map (·.2.2)).Nodup
  clock : ∀ e ∈ es, e.2.2 < clk

omit [Good] in
theorem MapR.mono {K K' : KM} (hle : KM.le K K') {es : List ME} {ents : Array MapEntry} {clk : Nat} (h : MapR K es ents clk) : MapR K' es ents clk :=
  { h with at_ := fun i e he => let ⟨m, h1, h2, h3, h4⟩ := h.at_ i e he; ⟨m, h1, VR.mono hle _ _ h2, VR.mono hle _ _ h3, h4⟩ }

/-- Without the stamps. -/
def unborn (e : ME) : V × V := (e.1, e.2.1)

/-- A block of the heap. -/
def BR (K : KM) (w : World) : Blk → KB → Prop
  | .cells g k c, e => ∃ B S N, e = .c g B S N k ∧ ∃ c' ty fr, w.heap[B]? = some (.cells c' ty fr) ∧ c'.size = N ∧ S + c.length ≤ N ∧ CR K c c' S ∧ (k = true → N ≤ fr.1 ∨ fr.2 ≤ fr.1)
  | .map ex es c, e => ∃ B, e = .m B ∧ ∃ ents clk es', w.heap[B]? = some (.map ents clk) ∧ MapR K es' ents clk ∧ (ex = true → es' = es ∧ clk = c) ∧ (es'.map unborn).Perm (es.map unborn)
  | .loop r, e => ∃ B L, e = .l B L r.lent ∧ ∃ R, w.heap[B]? = some (.loop R) ∧ LoopRel K L r R ∧ (r.lent = false → LR K L r.l w)

def HR (K : KM) (h : Heap) (w : World) : Prop := h.length = K.length ∧ ∀ (b : Nat) (x : Blk), h[b]? = some x → ∃ e, K[b]? = some e ∧ BR K w x e

/-- Who owns a block of the model's. -/
inductive Owner where
  | loc (s : Nat)
  | blk (b : Nat)
  | lloc (b s : Nat)
  deriving DecidableEq

def OwnBy (K : KM) (L : KL) : Owner → Nat → Prop
  | .loc s, B => ∃ ver, L[s]? = some (ver, B) ∧ 0 < ver
  | .blk b, B => (∃ g S N k, K[b]? = some (.c g B S N k) ∧ k = true) ∨ K[b]? = some (.m B) ∨ ∃ l t, K[b]? = some (.l B l t)
  | .lloc b s, B => ∃ B' l ver, K[b]? = some (.l B' l false) ∧ l[s]? = some (ver, B) ∧ 0 < ver

structure IInv (K : KM) (L : KL) (w : World) : Prop where
  inj : ∀ (o o' : Owner) (B : Nat), OwnBy K L o B → OwnBy K L o' B → o = o'
  lt : ∀ (o : Owner) (B : Nat), OwnBy K L o B → B < w.heap.size
  ro : ∀ (b g B S N : Nat), K[b]? = some (.c g B S N false) → B < w.heap.size ∧ ∀ o, ¬ OwnBy K L o B

/-- From one state to a later one: what is owned by nobody stays. -/
structure Step (K : KM) (L : KL) (w : World) (K' : KM) (L' : KL) (w' : World) : Prop where
  kle : KM.le K K'
  lle : KL.le L L'
  size : w.heap.size ≤ w'.heap.size
  same : ∀ B : Nat, B < w.heap.size → (∀ o, ¬ OwnBy K L o B) → w'.heap[B]? = w.heap[B]?
  own : ∀ (o : Owner) (B : Nat), OwnBy K' L' o B → w.heap.size ≤ B ∨ ∃ o', OwnBy K L o' B
  os : w'.os = w.os
  tape : w'.tape = w.tape
  output : w'.output = w.output
  ros : ∀ b g B S N : Nat, K'[b]? = some (.c g B S N false) → K[b]? = some (.c g B S N false)
  loops : ∀ (b B : Nat) (kl : KL) (t : Bool), K[b]? = some (.l B kl t) → ∃ kl', K'[b]? = some (.l B kl' t) ∧ (t = true → kl' = kl) ∧ KL.le kl kl'

omit [Good] in
theorem Step.refl (K : KM) (L : KL) (w : World) : Step K L w K L w :=
  ⟨KM.le_refl K, KL.le_refl L, Nat.le_refl _, fun _ _ _ => rfl, fun o _ h => .inr ⟨o, h⟩, rfl, rfl, rfl, fun _ _ _ _ _ h => h, fun _ _ kl _ h => ⟨kl, h, fun _ => rfl, KL.le_refl kl⟩⟩

omit [Good] in
theorem Step.trans {K K' K'' : KM} {L L' L'' : KL} {w w' w'' : World} (h : Step K L w K' L' w') (h' : Step K' L' w' K'' L'' w'') : Step K L w K'' L'' w'' := by
  refine ⟨KM.le_trans h.kle h'.kle, KL.le_trans h.lle h'.lle, Nat.le_trans h.size h'.size, fun B hB hn => ?_, fun o B ho => ?_, h'.os.trans h.os, h'.tape.trans h.tape, h'.output.trans h.output, fun b g B S N hb => h.ros b g B S N (h'.ros b g B S N hb), fun b B kl t hb => ?_⟩
  · rw [h'.same B (Nat.lt_of_lt_of_le hB h.size) fun o ho => ?_, h.same B hB hn]
    rcases h.own o B ho with h1 | ⟨o', h1⟩
    · omega
    · exact hn o' h1
  · rcases h'.own o B ho with h1 | ⟨o', h1⟩
    · exact .inl (Nat.le_trans h.size h1)
    · exact h.own o' B h1
  · obtain ⟨k1, h1, e1, l1⟩ := h.loops b B kl t hb
    obtain ⟨k2, h2, e2, l2⟩ := h'.loops b B k1 t h1
    exact ⟨k2, h2, fun ht => (e2 ht).trans (e1 ht), KL.le_trans l1 l2⟩

/-- The interpreter's memory and the model's. -/
structure Mem (K : KM) (L : KL) (l : Locs) (h : Heap) (w : World) : Prop where
  lr : LR K L l w
  hr : HR K h w
  inv : IInv K L w

/-- The marks that loops over functions have left on the frame's deferred calls. -/
def Marks (K : KM) (L : KL) (ds : List Deferred) (w : World) : Prop :=
  ∃ Ds : List Nat, ds = Ds.map (fun D => { target := .collected D, args := #[] }) ∧ Ds.Nodup ∧ ∀ D ∈ Ds, w.heap[D]? = some (.deferred (some [])) ∧ ∀ o, ¬ OwnBy K L o D

structure SR (K : KM) (L : KL) (s : St) (a : Act) (w : World) : Prop where
  env : ER K L s.e a.tmps
  mem : Mem K L s.l s.h w
  marks : Marks K L a.defers w

omit [Good] in
theorem Marks.step {K K' : KM} {L L' : KL} {w w' : World} {ds : List Deferred} (h : Marks K L ds w) (hs : Step K L w K' L' w') : Marks K' L' ds w' := by
  obtain ⟨Ds, rfl, hn, hd⟩ := h
  refine ⟨Ds, rfl, hn, fun D hD => ?_⟩
  obtain ⟨h1, h2⟩ := hd D hD
  have hlt : D < w.heap.size := (Array.getElem?_eq_some_iff.1 h1).1
  refine ⟨(hs.same D hlt h2).trans h1, fun o ho => ?_⟩
  rcases hs.own o D ho with h3 | ⟨o', h3⟩
  · omega
  · exact h2 o' h3

end Go.Ev
