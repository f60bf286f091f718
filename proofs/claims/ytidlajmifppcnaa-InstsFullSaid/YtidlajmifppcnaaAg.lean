/-
Texts of this claim, one behind the other.
-/
import Derived.Test.YtidlajmifppcnaaAf
set_option linter.unusedSimpArgs false
set_option linter.unusedVariables false
set_option maxRecDepth 100000
set_option maxRecDepth 100000
namespace Go.Ev
open Go.Ev renaming exPure -> Ja, ofValue -> Jb, cellsV -> Jc, load -> Jd, store -> Je, binOp -> Jf, intOp -> Jg, rdV -> Jh, vsame -> Ji, vsames -> Jj, makeSliceV -> Jk, resV -> Jl, isCell -> Jm, nilCheckV -> Jn, allV -> Jo, builtinV -> Jp, lenV -> Jq, indexAddrV -> Jr, unOp -> Js, minmaxV -> Jt, minmax -> Ju, sliceV -> Jv, asInt -> Jw, appendV -> Jx, copyV -> Jy, clearV -> Jz, convV -> J0, sliceCells -> J1, shift -> J2
open Go.Proofs
def one (l i st : Int) : In := ⟨l, i, 0, 0, 0, 0, st, false, 0, 0, 0, 0, 0, .sl .nil 0 0 0, [], 0, .sl .nil 0 0 0, []⟩
theorem one_at (h : Heap) (l i st : Int) : InAt h (one l i st) := ⟨⟨.nil, 0, 0, rfl, Nat.zero_le _, trivial, .inl rfl⟩, ⟨.nil, 0, 0, rfl, Nat.le_refl _, by decide, .inl rfl⟩⟩
theorem one_may {l i st : Int} (hl : 0 <= l /\ l < 7) (hi : 1 <= i /\ i <= 1073741824) (hs : 0 <= st /\ st <= 3) : mayB (one l i st) = true := by
  have h1 : hdB (one l i st) = true := by
    unfold hdB
    have a1 : refP l i := ⟨hl.1, hl.2, hi.1, hi.2⟩
    have a2 : balP 0 0 := by decide
    have a3 : ¬ lsP 0 0 0 0 := by decide
    have a4 : stP (one l i st) := ⟨hs, by show (0 : Int) <= 0; omega, by show (0 : Int) <= 1099511627776; omega⟩
    simp only [Bool.and_eq_true, decide_eq_true_eq, Bool.not_eq_true', decide_eq_false_iff_not]
    exact ⟨⟨⟨⟨a1, a2⟩, a2⟩, a3⟩, a4⟩
  have h2 : nonB (one l i st) = true := by simp [nonB, one, smC]
  have h3 : bodB (one l i st) = true := by simp [bodB, one, mayP, risB]
  unfold mayB
  rw [h1, h2, h3]
  cases decide ((one l i st).st = 0) <;> rfl
def kn (n : Nat) : List RP := (List.range n).map fun j : Nat => ((0 : Int), (j : Int) + 1)
theorem kn_succ (n : Nat) : kn (n + 1) = kn n ++ [((0 : Int), (n : Int) + 1)] := by unfold kn; rw [List.range_succ, List.map_append]; rfl
theorem kn_mem {n : Nat} {k : RP} : k ∈ kn n ↔ k.1 = 0 /\ 1 <= k.2 /\ k.2 <= n := by
  unfold kn
  rw [List.mem_map]
  constructor
  · rintro ⟨j, hj, rfl⟩
    have := List.mem_range.1 hj
    exact ⟨rfl, by dsimp only; omega, by dsimp only; omega⟩
  · rintro ⟨h1, h2, h3⟩
    obtain ⟨a, b⟩ := k
    dsimp only at h1 h2 h3
    exact ⟨(b - 1).toNat, List.mem_range.2 (by omega), by rw [h1]; congr 1; omega⟩
theorem kn_len (n : Nat) : (kn n).length = n := by simp [kn]
theorem mxR_is {ks : List RP} {N : Int} (h0 : 0 <= N) (h1 : ∀ k ∈ ks, k.1 = 0 -> k.2 <= N) (h2 : N = 0 \/ ((0 : Int), N) ∈ ks) : mxR 0 ks = N := by
  obtain ⟨a1, a2, a3⟩ := mxS_fold 0 ks 0
  unfold mxR
  have h3 : N <= ks.foldl (mxS 0) 0 := by
    rcases h2 with h2 | h2
    · omega
    · exact a2 _ h2 rfl
  rcases a3 with e | ⟨k, hk, hl, e⟩
  · omega
  · have := h1 k hk hl; omega
theorem len_keys {L : List In} {ks : List RP} (h : L.map In.key = ks) : L.length = ks.length := by rw [<- h]; simp
theorem put_new {L : List In} {x : In} (h : x.key ∉ L.map In.key) : (putL L x).map In.key = L.map In.key ++ [x.key] := by rw [putL_keys, if_neg h]
theorem put_old {L : List In} {x : In} (h : x.key ∈ L.map In.key) : (putL L x).map In.key = L.map In.key := by rw [putL_keys, if_pos h]
set_option maxHeartbeats 8000000 in
theorem instsFull_at (n : Int) (h : Heap) : Ev.Ok (D X (.fn 7 []) [.int .i64 n] h) fun r => r.1 = .bool true := by
  refine Ok.aim fun Q hQ => ?_
  have hQ' := Hid.mk hQ
  clear hQ
  obtain ⟨n1, hn1⟩ : ∃ n1 : Int, (if (4096 : Int) < n then 4096 else n) = n1 := ⟨_, rfl⟩
  obtain ⟨N, hN⟩ : ∃ N : Nat, (if (0 : Int) < n1 then n1 else 0) = (N : Int) := ⟨(if (0 : Int) < n1 then n1 else 0).toNat, by split <;> omega⟩
  have hN4 : N <= 4096 := by
    have h1 : n1 <= 4096 := by rw [<- hn1]; split <;> omega
    split at hN <;> omega
  have hlv := D_pin (X := X) (f := 13) (b := true) rfl
  have hnew := newT_at h
  have hst : TabAt (h ++ [Blk.map true [] 0, .cells 0 true [.map h.length]]) (h.length + 1) h.length [] := by
    refine ⟨?_, ⟨true, [], 0, ?_, rfl⟩, (fun x hx => nomatch hx), List.nodup_nil⟩
    · rw [hcells_ge (by omega), Nat.add_sub_cancel_left]; rfl
    · rw [List.getElem?_append_right (Nat.le_refl _), Nat.sub_self]; rfl
  have hst' := Hid.mk hst
  clear hst
  (refine Ok.body body7 pin7 ?_; simp only [c7, Try.f7, Option.getD_some, nslot7, List.append_nil, List.map, List.replicate, List.length_cons, List.length_nil, Nat.reduceAdd, Nat.reduceSub, List.cons_append, List.nil_append])
  (repeat' (first | (simp -implicitDefEqProofs (maxSteps := 1000000) (disch := first | assumption | omega | (simp only [ZDI]; omega)) only [*, lenV, minmaxV, minmax, G7, Za, Zb, Zc, Zd, Ze, Zf, Zg, Zh, Zi, Zj, Zk, Zl, Zm, Zn, Zo, Ja, Jb, Jc, Nat.reduceEqDiff, Jd, Je, Nat.reduceLT, Nat.reduceAdd, Jf, Jg, Jh, Ji, Jj, Jk, Nat.reduceBEq, Jl, Jm, wr, Jn, Nat.reduceSub, Nat.reduceMul, Jo, Jp, Jq, Jr, Js, Jt, Ju, Jv, Jw, Jx, Jy, Jz, J0, J1, J2, reduceCtorEq, Int.reduceLT, Int.reduceLE, Int.reduceAdd, Int.reduceSub, Int.reduceNeg, Int.reduceToNat, Int.reduceEq, Nat.reduceLeDiff]) | ((with_reducible (first | refine Ok.br ?_ ?_ | refine Ok.gd ?_ ?_ | refine Ok.ld ?_ ?_)) <;> (intro g; (try simp only [ZGS] at g); (first | (exfalso; omega) | skip)))))
  clear hn1 hN hnew
  generalize h.length + 1 = b at hst' ⊢
  obtain ⟨m, hm⟩ : ∃ m, h.length = m := ⟨_, rfl⟩
  refine Ok.loop [false, false, true, false, true, false, false, false, false, false, false, true, true, true, true, true, true, true, true, true, true, true, false, false, false, false, false, false, false, false, false, false, false, false, false, false, false, false, false, false, false, false, false, false, false, false, false, false, false, false, false, false, false, false, false, false, false, false, false, false] (fun n s2 => ∃ (i : Nat) (L : List In), n = N - i /\ i <= N /\ tv s2.e 11 = .v (.int .i64 i) /\ s2.l = [] /\ TabAt s2.h b m L /\ L.map In.key = kn i)
    (fun y s2 => y = .exit 0 /\ s2.l = [] /\ ∃ L : List In, TabAt s2.h b m L /\ L.map In.key = kn N) (N - 0) ⟨0, [], rfl, Nat.zero_le _, rfl, rfl, by rw [<- hm]; exact hst'.out, rfl⟩ ?_ ?_
  · intro n ⟨e', l', g⟩ hW ⟨i, L, hmm, hi, h9, k2, ht, hk⟩
    dsimp only at hW h9 k2 ht
    subst l'
    rw [hW.spread]
    simp only [spread_t, spread_f, spread_n, Nat.zero_add, Nat.reduceAdd, h9]
    clear hW hQ' hst'
    by_cases hlt : i < N
    · have hlt' : (i : Int) < (N : Int) := by omega
      obtain ⟨g2, x', hput, hx', ht2, _, _⟩ := put_at ht (one_at g 0 ((i : Int) + 1) 0)
      have hnk : (one 0 ((i : Int) + 1) 0).key ∉ L.map In.key := by rw [hk, kn_mem]; show ¬ (_ /\ _ /\ ((i : Int) + 1) <= i); omega
      have hpe : putE L (one 0 ((i : Int) + 1) 0) = 0 := by
        unfold putE
        rw [one_may (by omega) (by omega) (by omega), if_pos rfl, if_pos (.inr (by rw [len_keys hk, kn_len]; omega))]
      rw [hpe] at hput ht2
      rw [if_pos rfl] at ht2
      have hkx : x'.key = (one 0 ((i : Int) + 1) 0).key := by have := congrArg In.key hx'; exact this
      have hk2 : (putL L x').map In.key = kn (i + 1) := by rw [put_new (by rw [hkx]; exact hnk), hk, hkx, kn_succ]; rfl
      have ht3 := Hid.mk ht2
      have hk3 := Hid.mk hk2
      simp only [inV, one] at hput
      clear ht ht2 hk hk2 hnk hpe hx' hkx
      (repeat' (first | (simp -implicitDefEqProofs (maxSteps := 1000000) (disch := first | assumption | omega | (simp only [ZDI]; omega)) only [*, lenV, G7, Za, Zb, Zc, Zd, Ze, Zf, Zg, Zh, Zi, Zj, Zk, Zl, Zm, Zn, Zo, Ja, Jb, Jc, Nat.reduceEqDiff, Jd, Je, Nat.reduceLT, Nat.reduceAdd, Jf, Jg, Jh, Ji, Jj, Jk, Nat.reduceBEq, Jl, Jm, wr, Jn, Nat.reduceSub, Nat.reduceMul, Jo, Jp, Jq, Jr, Js, Jt, Ju, Jv, Jw, Jx, Jy, Jz, J0, J1, J2, reduceCtorEq, Int.reduceLT, Int.reduceLE, Int.reduceAdd, Int.reduceSub, Int.reduceNeg, Int.reduceToNat, Int.reduceEq, Nat.reduceLeDiff]) | ((with_reducible (first | refine Ok.br ?_ ?_ | refine Ok.gd ?_ ?_ | refine Ok.ld ?_ ?_)) <;> (intro g; (try simp only [ZGS] at g); (first | (exfalso; omega) | skip)))))
      exact Turn.next (N - (i + 1)) (by omega) ⟨rfl, i + 1, _, rfl, by omega, rfl, rfl, ht3.out, hk3.out⟩
    · have hlt' : ¬ (i : Int) < (N : Int) := by omega
      have e : i = N := by omega
      rw [e] at hk
      have ht3 := Hid.mk ht
      have hk3 := Hid.mk hk
      clear ht hk e
      (repeat' (first | (simp -implicitDefEqProofs (maxSteps := 1000000) (disch := first | assumption | omega | (simp only [ZDI]; omega)) only [*, lenV, G7, Za, Zb, Zc, Zd, Ze, Zf, Zg, Zh, Zi, Zj, Zk, Zl, Zm, Zn, Zo, Ja, Jb, Jc, Nat.reduceEqDiff, Jd, Je, Nat.reduceLT, Nat.reduceAdd, Jf, Jg, Jh, Ji, Jj, Jk, Nat.reduceBEq, Jl, Jm, wr, Jn, Nat.reduceSub, Nat.reduceMul, Jo, Jp, Jq, Jr, Js, Jt, Ju, Jv, Jw, Jx, Jy, Jz, J0, J1, J2, reduceCtorEq, Int.reduceLT, Int.reduceLE, Int.reduceAdd, Int.reduceSub, Int.reduceNeg, Int.reduceToNat, Int.reduceEq, Nat.reduceLeDiff]) | ((with_reducible (first | refine Ok.br ?_ ?_ | refine Ok.gd ?_ ?_ | refine Ok.ld ?_ ?_)) <;> (intro g; (try simp only [ZGS] at g); (first | (exfalso; omega) | skip)))))
      exact Turn.exit ⟨rfl, rfl, rfl, _, ht3.out, hk3.out⟩
  · intro y ⟨e', l', g⟩ hW ⟨hy, k2, L, ht, hk⟩
    dsimp only at hW k2 ht
    subst l' hy
    rw [hW.spread]
    clear hW hst'
    simp only [spread_t, spread_f, spread_n, Nat.zero_add, Nat.reduceAdd]
    have hL : L.length = N := by rw [len_keys hk, kn_len]
    obtain ⟨g1, xa, hputA, hxa, htA, _, _⟩ := put_at ht (one_at g 1 1 0)
    have hnk : (one 1 1 0).key ∉ L.map In.key := by rw [hk, kn_mem]; exact fun h => absurd h.1 (show ¬ (1 : Int) = 0 by decide)
    have hka : xa.key = (one 1 1 0).key := by have := congrArg In.key hxa; exact this
    by_cases hfull : N = 4096
    · have hpe : putE L (one 1 1 0) = 2 := by
        unfold putE
        rw [one_may (by omega) (by omega) (by omega), if_pos rfl, if_neg (fun h => by rcases h with h | h; exact hnk h; omega)]
      rw [hpe] at hputA htA
      rw [if_neg (by decide)] at htA
      obtain ⟨g2, xb, hputB, hxb, htB, _, _⟩ := put_at htA (one_at g1 0 N 3)
      have hkb : xb.key = (one 0 N 3).key := by have := congrArg In.key hxb; exact this
      have hin : (one 0 N 3).key ∈ L.map In.key := by rw [hk, kn_mem]; show (0 : Int) = 0 /\ 1 <= (N : Int) /\ (N : Int) <= N; omega
      have hpb : putE L (one 0 N 3) = 0 := by
        unfold putE
        rw [one_may (by omega) (by omega) (by omega), if_pos rfl, if_pos (.inl hin)]
      rw [hpb] at hputB htB
      rw [if_pos rfl] at htB
      have hkB : (putL L xb).map In.key = kn N := by rw [put_old (by rw [hkb]; exact hin), hk]
      have hlen := len_at htB
      rw [len_keys hkB, kn_len] at hlen
      obtain ⟨yy, hnext, l2, rfl⟩ := next_at htB (by rw [len_keys hkB, kn_len]; omega) (by rw [hkB]; intro k hk; have := kn_mem.1 hk; omega) 0
      rw [hkB, mxR_is (N := N) (by omega) (fun k hk _ => (kn_mem.1 hk).2.2) (.inr (kn_mem.2 ⟨rfl, by show 1 <= (N : Int); omega, Int.le_refl _⟩))] at hnext
      subst hfull
      simp only [inV, one] at hputA hputB
      clear ht htA htB hk hkB hka hkb hxa hxb hnk hin hpe hpb hL
      simp only [show ((4096 : Nat) : Int) = 4096 from rfl] at hputB hlen hnext ⊢
      (repeat' (first | (simp -implicitDefEqProofs (maxSteps := 1000000) (disch := first | assumption | omega | (simp only [ZDI]; omega)) only [*, lenV, minmaxV, minmax, eq_self, itT, itF, if_true, if_false, G7, Za, Zb, Zc, Zd, Ze, Zf, Zg, Zh, Zi, Zj, Zk, Zl, Zm, Zn, Zo, Ja, Jb, Jc, Nat.reduceEqDiff, Jd, Je, Nat.reduceLT, Nat.reduceAdd, Jf, Jg, Jh, Ji, Jj, Jk, Nat.reduceBEq, Jl, Jm, wr, Jn, Nat.reduceSub, Nat.reduceMul, Jo, Jp, Jq, Jr, Js, Jt, Ju, Jv, Jw, Jx, Jy, Jz, J0, J1, J2, reduceCtorEq, Int.reduceLT, Int.reduceLE, Int.reduceAdd, Int.reduceSub, Int.reduceNeg, Int.reduceToNat, Int.reduceEq, Nat.reduceLeDiff]) | ((with_reducible (first | refine Ok.br ?_ ?_ | refine Ok.gd ?_ ?_ | refine Ok.ld ?_ ?_)) <;> (intro g; (try simp only [ZGS] at g); (first | (exfalso; omega) | skip)))))
      exact hQ'.out _ rfl
    · have hlt : N < 4096 := by omega
      have hpe : putE L (one 1 1 0) = 0 := by
        unfold putE
        rw [one_may (by omega) (by omega) (by omega), if_pos rfl, if_pos (.inr (by omega))]
      rw [hpe] at hputA htA
      rw [if_pos rfl] at htA
      have hkA : (putL L xa).map In.key = kn N ++ [((1 : Int), (1 : Int))] := by rw [put_new (by rw [hka]; exact hnk), hk, hka]; rfl
      have hmem : ∀ k ∈ kn N ++ [((1 : Int), (1 : Int))], k.2 <= 1073741824 /\ (k.1 = 0 -> k.2 <= N) := by
        intro k hk
        rcases List.mem_append.1 hk with hk | hk
        · have := kn_mem.1 hk; omega
        · rw [List.mem_singleton.1 hk]; exact ⟨by decide, fun h => by cases h⟩
      by_cases h0 : N = 0
      · have hlen := len_at htA
        rw [len_keys hkA, List.length_append, kn_len] at hlen
        obtain ⟨yy, hnext, l2, rfl⟩ := next_at htA (by rw [len_keys hkA, List.length_append, kn_len]; simp; omega) (by rw [hkA]; exact fun k hk => (hmem k hk).1) 0
        rw [hkA, mxR_is (N := N) (by omega) (fun k hk => (hmem k hk).2) (.inl (by omega))] at hnext
        subst h0
        simp only [inV, one] at hputA
        clear ht htA hk hkA hka hxa hnk hpe hL hmem
        simp only [show ((0 : Nat) : Int) = 0 from rfl, List.length_cons, List.length_nil, Nat.zero_add, show ((1 : Nat) : Int) = 1 from rfl, Int.zero_add] at hlen hnext ⊢
        (repeat' (first | (simp -implicitDefEqProofs (maxSteps := 1000000) (disch := first | assumption | omega | (simp only [ZDI]; omega)) only [*, lenV, minmaxV, minmax, eq_self, itT, itF, if_true, if_false, G7, Za, Zb, Zc, Zd, Ze, Zf, Zg, Zh, Zi, Zj, Zk, Zl, Zm, Zn, Zo, Ja, Jb, Jc, Nat.reduceEqDiff, Jd, Je, Nat.reduceLT, Nat.reduceAdd, Jf, Jg, Jh, Ji, Jj, Jk, Nat.reduceBEq, Jl, Jm, wr, Jn, Nat.reduceSub, Nat.reduceMul, Jo, Jp, Jq, Jr, Js, Jt, Ju, Jv, Jw, Jx, Jy, Jz, J0, J1, J2, reduceCtorEq, Int.reduceLT, Int.reduceLE, Int.reduceAdd, Int.reduceSub, Int.reduceNeg, Int.reduceToNat, Int.reduceEq, Nat.reduceLeDiff]) | ((with_reducible (first | refine Ok.br ?_ ?_ | refine Ok.gd ?_ ?_ | refine Ok.ld ?_ ?_)) <;> (intro g; (try simp only [ZGS] at g); (first | (exfalso; omega) | skip)))))
        exact hQ'.out _ rfl
      · obtain ⟨g2, xb, hputB, hxb, htB, _, _⟩ := put_at htA (one_at g1 0 N 3)
        have hkb : xb.key = (one 0 N 3).key := by have := congrArg In.key hxb; exact this
        have hin : (one 0 N 3).key ∈ (putL L xa).map In.key := by
          rw [hkA]
          refine List.mem_append_left _ (kn_mem.2 ?_)
          show (0 : Int) = 0 /\ 1 <= (N : Int) /\ (N : Int) <= N
          omega
        have hpb : putE (putL L xa) (one 0 N 3) = 0 := by
          unfold putE
          rw [one_may (by omega) (by omega) (by omega), if_pos rfl, if_pos (.inl hin)]
        rw [hpb] at hputB htB
        rw [if_pos rfl] at htB
        have hkB : (putL (putL L xa) xb).map In.key = kn N ++ [((1 : Int), (1 : Int))] := by rw [put_old (by rw [hkb]; exact hin), hkA]
        have hlen := len_at htB
        rw [len_keys hkB, List.length_append, kn_len] at hlen
        obtain ⟨yy, hnext, l2, rfl⟩ := next_at htB (by rw [len_keys hkB, List.length_append, kn_len]; simp; omega) (by rw [hkB]; exact fun k hk => (hmem k hk).1) 0
        rw [hkB, mxR_is (N := N) (by omega) (fun k hk => (hmem k hk).2) (.inr (List.mem_append_left _ (kn_mem.2 ⟨rfl, by show 1 <= (N : Int); omega, Int.le_refl _⟩)))] at hnext
        have e1 : ¬ (N : Int) = 4096 := by omega
        have e0 : ¬ (N : Int) = 0 := by omega
        have e2 : (if (4096 : Int) < (N : Int) + 1 then 4096 else (N : Int) + 1) = (N : Int) + 1 := by rw [if_neg (by omega)]
        have e3 : ((N + [((1 : Int), (1 : Int))].length : Nat) : Int) = (N : Int) + 1 := by simp
        rw [e3] at hlen
        simp only [inV, one] at hputA hputB
        clear ht htA htB hk hkA hkB hka hkb hxa hxb hnk hin hpe hpb hL hmem h0 hfull e3
        (repeat' (first | (simp -implicitDefEqProofs (maxSteps := 1000000) (disch := first | assumption | omega | (simp only [ZDI]; omega)) only [*, lenV, minmaxV, minmax, eq_self, G7, Za, Zb, Zc, Zd, Ze, Zf, Zg, Zh, Zi, Zj, Zk, Zl, Zm, Zn, Zo, Ja, Jb, Jc, Nat.reduceEqDiff, Jd, Je, Nat.reduceLT, Nat.reduceAdd, Jf, Jg, Jh, Ji, Jj, Jk, Nat.reduceBEq, Jl, Jm, wr, Jn, Nat.reduceSub, Nat.reduceMul, Jo, Jp, Jq, Jr, Js, Jt, Ju, Jv, Jw, Jx, Jy, Jz, J0, J1, J2, reduceCtorEq, Int.reduceLT, Int.reduceLE, Int.reduceAdd, Int.reduceSub, Int.reduceNeg, Int.reduceToNat, Int.reduceEq, Nat.reduceLeDiff]) | ((with_reducible (first | refine Ok.br ?_ ?_ | refine Ok.gd ?_ ?_ | refine Ok.ld ?_ ?_)) <;> (intro g; (try simp only [ZGS] at g); (first | (exfalso; omega) | skip)))))
        exact hQ'.out _ rfl
end Go.Ev
set_option maxRecDepth 100000
namespace Go.Ev
open Go.Proofs
section
variable {T : TypeId -> TI} {h : Heap} {d : Nat} {t u w : TypeId} {xss : List (List V)}
theorem FitsAll.one (hf : FitsAll T h d [t] xss) : ∃ x, xss = [x] /\ Fits T h d t x := by
  match xss, hf with
  | [x], hf => exact ⟨x, rfl, hf.1⟩
end
theorem Strs.at' {h : Heap} {v : V} {l : List ByteArray} (hs : Strs h v l) : StrsAt h v l := hs.at
def In.Ok (x : In) : Prop := In64 x.l /\ In64 x.i /\ In64 x.bn /\ In64 x.bd /\ In64 x.vn /\ In64 x.vd /\ In64 x.st /\ In64 x.sq /\ In64 x.o /\ In64 x.c /\ In64 x.q /\ In64 x.f /\ In64 x.t
end Go.Ev
set_option maxRecDepth 100000
namespace Go.Ev
open Go.Proofs
end Go.Ev
