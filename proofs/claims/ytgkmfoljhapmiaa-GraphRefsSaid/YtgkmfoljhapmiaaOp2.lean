/-
The interpreter's memory stays the model's: behind a write, a new block, a move.
-/
import Derived.Test.YtgkmfoljhapmiaaOp1
set_option linter.unusedSimpArgs false
set_option linter.unusedVariables false
namespace Go.Ev
variable {P : Program} [Good]

omit [Good] in
theorem LR.keep {K K' : KM} {L : KL} {l : Locs} {w w' : World} (h : LR K L l w) (hle : KM.le K K')
    (hs : ∀ s ver B : Nat, L[s]? = some (ver, B) → 0 < ver → w'.heap[B]? = w.heap[B]?) : LR K' L l w' :=
  ⟨h.1, fun s ver c hc => by
    obtain ⟨B, hB, h0⟩ := h.2 s ver c hc
    refine ⟨B, hB, fun hv => ?_⟩
    obtain ⟨c', e, h1, h2, h3⟩ := h0 hv
    exact ⟨c', e, (hs s ver B hB hv).trans h1, h2, h3.mono hle⟩⟩

/-- The blocks that an entry leads to. -/
def KB.uses : KB → Nat → Prop
  | .c _ B _ _ _, B' => B' = B
  | .m B, B' => B' = B
  | .l B L t, B' => B' = B ∨ (t = false ∧ ∃ s ver : Nat, L[s]? = some (ver, B') ∧ 0 < ver)

theorem BR.keep {K K' : KM} {w w' : World} {x : Blk} {e : KB} (h : BR K w x e) (hle : KM.le K K') (hs : ∀ B, e.uses B → w'.heap[B]? = w.heap[B]?) : BR K' w' x e := by
  cases x with
  | cells g k c =>
    obtain ⟨B, S, N, rfl, c', ty, fr, h1, h2, h3, h4, h5⟩ := h
    exact ⟨B, S, N, rfl, c', ty, fr, (hs B rfl).trans h1, h2, h3, h4.mono hle, h5⟩
  | map ex es c =>
    obtain ⟨B, rfl, ents, clk, es', h1, h2, h3, h4⟩ := h
    exact ⟨B, rfl, ents, clk, es', (hs B rfl).trans h1, h2.mono hle, h3, h4⟩
  | loop r =>
    obtain ⟨B, L, rfl, R, h1, h2, h3⟩ := h
    refine ⟨B, L, rfl, R, (hs B (.inl rfl)).trans h1, ?_, fun ht => (h3 ht).keep hle fun s ver B' hB hv => hs B' (.inr ⟨ht, s, ver, hB, hv⟩)⟩
    exact { h2 with tmps := h2.tmps.mono hle (KL.le_refl L) }

omit [Good] in
/-- What an entry leads to is nobody else's. -/
theorem IInv.uses {K : KM} {L : KL} {w : World} (hi : IInv K L w) {b : Nat} {e : KB} (hb : K[b]? = some e) {B : Nat} (hu : e.uses B) :
    (∀ o, OwnBy K L o B → (o = .blk b ∨ ∃ s, o = .lloc b s)) ∧ B < w.heap.size := by
  cases e with
  | c g B1 S N k =>
    cases hu
    by_cases hk : k = false
    · subst hk
      obtain ⟨h1, h2⟩ := hi.ro b g B S N hb
      exact ⟨fun o ho => absurd ho (h2 o), h1⟩
    · have hown : OwnBy K L (.blk b) B := .inl ⟨g, S, N, k, hb, by simpa using hk⟩
      exact ⟨fun o ho => .inl (hi.inj _ _ _ ho hown), hi.lt _ _ hown⟩
  | m B1 =>
    cases hu
    have hown : OwnBy K L (.blk b) B := .inr (.inl hb)
    exact ⟨fun o ho => .inl (hi.inj _ _ _ ho hown), hi.lt _ _ hown⟩
  | l B1 L1 t1 =>
    rcases hu with rfl | ⟨rfl, s, ver, hs, hv⟩
    · have hown : OwnBy K L (.blk b) B := .inr (.inr ⟨L1, t1, hb⟩)
      exact ⟨fun o ho => .inl (hi.inj _ _ _ ho hown), hi.lt _ _ hown⟩
    · have hown : OwnBy K L (.lloc b s) B := ⟨B1, L1, ver, hb, hs, hv⟩
      exact ⟨fun o ho => .inr ⟨s, hi.inj _ _ _ ho hown⟩, hi.lt _ _ hown⟩

/-- ONE BLOCK OF CELLS, OR A MAP, IS TURNED (written, moved, or new). -/
theorem Mem.updX {K K' : KM} {L : KL} {l : Locs} {h h' : Heap} {w w' : World} (hm : Mem K L l h w) (b : Nat) {B2 : Nat} {e2 : KB} {x2 : Blk}
    (hle : KM.le K K') (hK : ∀ b', b' ≠ b → K'[b']? = K[b']?) (hh : ∀ b', b' ≠ b → h'[b']? = h[b']?) (hlen : h'.length = K'.length)
    (hKb : K'[b]? = some e2) (he2 : (∃ g S N, e2 = .c g B2 S N true) ∨ e2 = .m B2) (hhb : h'[b]? = some x2) (hbr : BR K' w' x2 e2)
    (hnl : ∀ s B, ¬ OwnBy K L (.lloc b s) B)
    (hown : OwnBy K L (.blk b) B2 ∨ (w.heap.size ≤ B2 ∧ B2 < w'.heap.size))
    (hsame : ∀ B, B < w.heap.size → ¬ OwnBy K L (.blk b) B → w'.heap[B]? = w.heap[B]?) (hsz : w.heap.size ≤ w'.heap.size)
    (hos : w'.os = w.os) (ht : w'.tape = w.tape) (ho : w'.output = w.output) :
    Mem K' L l h' w' ∧ Step K L w K' L w' := by
  have hcase : ∀ o B, OwnBy K' L o B → (o = .blk b ∧ B = B2) ∨ (o ≠ .blk b ∧ OwnBy K L o B) := by
    intro o B hoB
    cases o with
    | loc s => exact .inr ⟨by simp, hoB⟩
    | blk b' =>
      by_cases e : b' = b
      · subst e
        rcases he2 with ⟨g2, S2, N2, rfl⟩ | rfl
        · rcases hoB with ⟨g, S, N, k, h1, _⟩ | h1 | ⟨l', h1⟩
          · rw [hKb] at h1; cases h1; exact .inl ⟨rfl, rfl⟩
          · rw [hKb] at h1; cases h1
          · obtain ⟨t', h1⟩ := h1; rw [hKb] at h1; cases h1
        · rcases hoB with ⟨g, S, N, k, h1, _⟩ | h1 | ⟨l', h1⟩
          · rw [hKb] at h1; cases h1
          · rw [hKb] at h1; cases h1; exact .inl ⟨rfl, rfl⟩
          · obtain ⟨t', h1⟩ := h1; rw [hKb] at h1; cases h1
      · refine .inr ⟨by simpa using e, ?_⟩
        simpa only [OwnBy, hK b' e] using hoB
    | lloc b' s =>
      by_cases e : b' = b
      · subst e
        obtain ⟨B', l', ver, h1, _⟩ := hoB
        rw [hKb] at h1
        rcases he2 with ⟨g2, S2, N2, rfl⟩ | rfl <;> cases h1
      · refine .inr ⟨by simp, ?_⟩
        simpa only [OwnBy, hK b' e] using hoB
  have hB2lt : B2 < w'.heap.size := by
    rcases hown with h1 | ⟨_, h1⟩
    · exact Nat.lt_of_lt_of_le (hm.inv.lt _ _ h1) hsz
    · exact h1
  -- no other owner has B2
  have hB2 : ∀ o, o ≠ .blk b → ¬ OwnBy K L o B2 := by
    intro o hne hoB
    rcases hown with h1 | ⟨h1, _⟩
    · exact hne (hm.inv.inj _ _ _ hoB h1)
    · have := hm.inv.lt _ _ hoB; omega
  refine ⟨⟨?_, ?_, ?_⟩, ?_⟩
  · refine hm.lr.keep hle fun s ver B hs hv => ?_
    have hown' : OwnBy K L (.loc s) B := ⟨ver, hs, hv⟩
    exact hsame B (hm.inv.lt _ _ hown') fun h1 => by have := hm.inv.inj _ _ _ hown' h1; simp at this
  · refine ⟨hlen, fun b' x hx => ?_⟩
    by_cases e : b' = b
    · subst e
      rw [hhb] at hx; cases hx
      exact ⟨_, hKb, hbr⟩
    · rw [hh b' e] at hx
      obtain ⟨en, hen, hb'⟩ := hm.hr.2 b' x hx
      refine ⟨en, by rw [hK b' e]; exact hen, hb'.keep hle fun B hB => ?_⟩
      obtain ⟨h1, h2⟩ := hm.inv.uses hen hB
      refine hsame B h2 fun h3 => ?_
      rcases h1 _ h3 with h4 | ⟨s, h4⟩
      · simp at h4; exact e h4.symm
      · simp at h4
  · refine ⟨fun o o' B h1 h2 => ?_, fun o B h1 => ?_, fun b' g B S N hr => ?_⟩
    · rcases hcase o B h1 with ⟨rfl, rfl⟩ | ⟨hne, h1'⟩
      · rcases hcase o' _ h2 with ⟨rfl, _⟩ | ⟨hne', h2'⟩
        · rfl
        · exact absurd h2' (hB2 o' hne')
      · rcases hcase o' B h2 with ⟨rfl, rfl⟩ | ⟨hne', h2'⟩
        · exact absurd h1' (hB2 o hne)
        · exact hm.inv.inj _ _ _ h1' h2'
    · rcases hcase o B h1 with ⟨rfl, rfl⟩ | ⟨_, h1'⟩
      · exact hB2lt
      · exact Nat.lt_of_lt_of_le (hm.inv.lt _ _ h1') hsz
    · by_cases e : b' = b
      · subst e; rw [hKb] at hr
        rcases he2 with ⟨g2, S2, N2, rfl⟩ | rfl <;> cases hr
      · rw [hK b' e] at hr
        obtain ⟨h1, h2⟩ := hm.inv.ro b' g B S N hr
        refine ⟨Nat.lt_of_lt_of_le h1 hsz, fun o hoB => ?_⟩
        rcases hcase o B hoB with ⟨rfl, rfl⟩ | ⟨_, h3⟩
        · rcases hown with h4 | ⟨h4, _⟩
          · exact h2 _ h4
          · omega
        · exact h2 o h3
  · refine ⟨hle, KL.le_refl L, hsz, fun B hB hn => hsame B hB (hn _), fun o B h1 => ?_, hos, ht, ho, fun b' g B S N hb' => ?_, fun b' B kl t hb' => ⟨kl, ?_, fun _ => rfl, KL.le_refl kl⟩⟩
    rcases hcase o B h1 with ⟨rfl, rfl⟩ | ⟨_, h1'⟩
    · rcases hown with h4 | ⟨h4, _⟩
      · exact .inr ⟨_, h4⟩
      · exact .inl h4
    · exact .inr ⟨_, h1'⟩
    · by_cases e : b' = b
      · subst e; rw [hKb] at hb'
        rcases he2 with ⟨g2, S2, N2, rfl⟩ | rfl <;> cases hb'
      · rw [hK b' e] at hb'; exact hb'
    · by_cases e : b' = b
      · subst e
        obtain ⟨e', he', kl', t', rfl⟩ := hle b' _ hb'
        rw [hKb] at he'
        rcases he2 with ⟨g2, S2, N2, rfl⟩ | rfl <;> cases he'
      · rw [hK b' e]; exact hb'

/-- ONE BLOCK OF CELLS IS TURNED (written, moved, or new). -/
theorem Mem.upd {K K' : KM} {L : KL} {l : Locs} {h h' : Heap} {w w' : World} (hm : Mem K L l h w) (b : Nat) {g2 B2 S2 N2 : Nat} {k2 : Bool} {c2 : List V}
    (hle : KM.le K K') (hK : ∀ b', b' ≠ b → K'[b']? = K[b']?) (hh : ∀ b', b' ≠ b → h'[b']? = h[b']?) (hlen : h'.length = K'.length)
    (hKb : K'[b]? = some (.c g2 B2 S2 N2 k2)) (hk2 : k2 = true) (hhb : h'[b]? = some (.cells g2 k2 c2)) (hbr : BR K' w' (.cells g2 k2 c2) (.c g2 B2 S2 N2 k2))
    (hnl : ∀ s B, ¬ OwnBy K L (.lloc b s) B)
    (hown : OwnBy K L (.blk b) B2 ∨ (w.heap.size ≤ B2 ∧ B2 < w'.heap.size))
    (hsame : ∀ B, B < w.heap.size → ¬ OwnBy K L (.blk b) B → w'.heap[B]? = w.heap[B]?) (hsz : w.heap.size ≤ w'.heap.size)
    (hos : w'.os = w.os) (ht : w'.tape = w.tape) (ho : w'.output = w.output) :
    Mem K' L l h' w' ∧ Step K L w K' L w' := by
  subst hk2
  exact hm.updX b hle hK hh hlen hKb (.inl ⟨_, _, _, rfl⟩) hhb hbr hnl hown hsame hsz hos ht ho

/-- ONE SLOT OF THE FRAME's MEMORY IS TURNED. -/
theorem Mem.updL {K : KM} {L L' : KL} {l l' : Locs} {h : Heap} {w w' : World} (hm : Mem K L l h w) (s : Nat) {ver2 B2 : Nat} {c2 : List V}
    (hle : KL.le L L') (hL : ∀ s', s' ≠ s → L'[s']? = L[s']?) (hl : ∀ s', s' ≠ s → l'[s']? = l[s']?) (hlen : l'.length = L'.length)
    (hLs : L'[s]? = some (ver2, B2)) (hls : l'[s]? = some (ver2, c2)) (hv2 : 0 < ver2)
    (hbr : ∃ c' e, w'.heap[B2]? = some (.cells c' e (0, 0)) ∧ c'.size = c2.length ∧ CR K c2 c' 0)
    (hown : OwnBy K L (.loc s) B2 ∨ (w.heap.size ≤ B2 ∧ B2 < w'.heap.size))
    (hsame : ∀ B, B < w.heap.size → ¬ OwnBy K L (.loc s) B → w'.heap[B]? = w.heap[B]?) (hsz : w.heap.size ≤ w'.heap.size)
    (hos : w'.os = w.os) (ht : w'.tape = w.tape) (ho : w'.output = w.output) :
    Mem K L' l' h w' ∧ Step K L w K L' w' := by
  have hcase : ∀ o B, OwnBy K L' o B → (o = .loc s ∧ B = B2) ∨ (o ≠ .loc s ∧ OwnBy K L o B) := by
    intro o B hoB
    cases o with
    | loc s' =>
      by_cases e : s' = s
      · subst e
        obtain ⟨ver, h1, _⟩ := hoB
        rw [hLs] at h1; cases h1; exact .inl ⟨rfl, rfl⟩
      · refine .inr ⟨by simpa using e, ?_⟩
        simpa only [OwnBy, hL s' e] using hoB
    | blk b' => exact .inr ⟨by simp, hoB⟩
    | lloc b' s' => exact .inr ⟨by simp, hoB⟩
  have hB2lt : B2 < w'.heap.size := by
    rcases hown with h1 | ⟨_, h1⟩
    · exact Nat.lt_of_lt_of_le (hm.inv.lt _ _ h1) hsz
    · exact h1
  have hB2 : ∀ o, o ≠ .loc s → ¬ OwnBy K L o B2 := by
    intro o hne hoB
    rcases hown with h1 | ⟨h1, _⟩
    · exact hne (hm.inv.inj _ _ _ hoB h1)
    · have := hm.inv.lt _ _ hoB; omega
  refine ⟨⟨?_, ?_, ?_⟩, ?_⟩
  · refine ⟨hlen, fun s' ver c hc => ?_⟩
    by_cases e : s' = s
    · subst e
      rw [hls] at hc; cases hc
      exact ⟨B2, hLs, fun _ => hbr⟩
    · rw [hl s' e] at hc
      obtain ⟨B, hB, h0⟩ := hm.lr.2 s' ver c hc
      refine ⟨B, by rw [hL s' e]; exact hB, fun hv => ?_⟩
      obtain ⟨c', ty, h1, h2, h3⟩ := h0 hv
      have hown' : OwnBy K L (.loc s') B := ⟨ver, hB, hv⟩
      exact ⟨c', ty, (hsame B (hm.inv.lt _ _ hown') fun h4 => by have := hm.inv.inj _ _ _ hown' h4; simp at this; exact e this).trans h1, h2, h3⟩
  · refine ⟨hm.hr.1, fun b' x hx => ?_⟩
    obtain ⟨en, hen, hb'⟩ := hm.hr.2 b' x hx
    refine ⟨en, hen, hb'.keep (KM.le_refl K) fun B hB => ?_⟩
    obtain ⟨h1, h2⟩ := hm.inv.uses hen hB
    refine hsame B h2 fun h3 => ?_
    rcases h1 _ h3 with h4 | ⟨s', h4⟩ <;> simp at h4
  · refine ⟨fun o o' B h1 h2 => ?_, fun o B h1 => ?_, fun b' g B S N hr => ?_⟩
    · rcases hcase o B h1 with ⟨rfl, rfl⟩ | ⟨hne, h1'⟩
      · rcases hcase o' _ h2 with ⟨rfl, _⟩ | ⟨hne', h2'⟩
        · rfl
        · exact absurd h2' (hB2 o' hne')
      · rcases hcase o' B h2 with ⟨rfl, rfl⟩ | ⟨hne', h2'⟩
        · exact absurd h1' (hB2 o hne)
        · exact hm.inv.inj _ _ _ h1' h2'
    · rcases hcase o B h1 with ⟨rfl, rfl⟩ | ⟨_, h1'⟩
      · exact hB2lt
      · exact Nat.lt_of_lt_of_le (hm.inv.lt _ _ h1') hsz
    · obtain ⟨h1, h2⟩ := hm.inv.ro b' g B S N hr
      refine ⟨Nat.lt_of_lt_of_le h1 hsz, fun o hoB => ?_⟩
      rcases hcase o B hoB with ⟨rfl, rfl⟩ | ⟨_, h3⟩
      · rcases hown with h4 | ⟨h4, _⟩
        · exact h2 _ h4
        · omega
      · exact h2 o h3
  · refine ⟨KM.le_refl K, hle, hsz, fun B hB hn => hsame B hB (hn _), fun o B h1 => ?_, hos, ht, ho, fun _ _ _ _ _ h => h, fun _ _ kl _ h => ⟨kl, h, fun _ => rfl, KL.le_refl kl⟩⟩
    rcases hcase o B h1 with ⟨rfl, rfl⟩ | ⟨_, h1'⟩
    · rcases hown with h4 | ⟨h4, _⟩
      · exact .inr ⟨_, h4⟩
      · exact .inl h4
    · exact .inr ⟨_, h1'⟩

/-- A draw. -/
theorem Mem.drew {K : KM} {L : KL} {l : Locs} {h : Heap} {w : World} (hm : Mem K L l h w) : Mem K L l h w.drew ∧ Step K L w K L w.drew :=
  ⟨⟨hm.lr.keep (KM.le_refl K) fun _ _ _ _ _ => rfl, ⟨hm.hr.1, fun b x hx => let ⟨e, h1, h2⟩ := hm.hr.2 b x hx; ⟨e, h1, h2.keep (KM.le_refl K) fun _ _ => rfl⟩⟩,
      ⟨hm.inv.inj, hm.inv.lt, hm.inv.ro⟩⟩,
    ⟨KM.le_refl K, KL.le_refl L, Nat.le_refl _, fun _ _ _ => rfl, fun o _ h => .inr ⟨o, h⟩, rfl, rfl, rfl, fun _ _ _ _ _ h => h, fun _ _ kl _ h => ⟨kl, h, fun _ => rfl, KL.le_refl kl⟩⟩⟩

end Go.Ev
