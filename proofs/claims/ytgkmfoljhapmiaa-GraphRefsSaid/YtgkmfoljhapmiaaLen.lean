/-
A number's length in bits.
-/
import Derived.Test.YtgkmfoljhapmiaaBun
import Derived.Test.YtgkmfoljhapmiaaWp2
import Derived.Test.YtgkmfoljhapmiaaFns
import Derived.Test.YtgkmfoljhapmiaaTys
set_option linter.unusedSimpArgs false
set_option linter.unusedVariables false
set_option maxRecDepth 100000
namespace Go.Ev
open Int renaming le_refl → Ja, toNat_natCast → Kz
open Go.Ev renaming wantedT → Jb, exPure → Jd, opd → Je, getT → Jf, constT → Jg, ofValue → Jh, cellsV → Ji, newVar → Jj, setT → Jk, posT → Jl, fieldAddrV → Ju, fieldOff → Jv, load → Jw, store → Jx, lcells → Jy, binOp → Jz, intOp → J0, leadsT → J5, again → J6, rdV → J7, vsame → J8, vsames → J9, makeSliceV → JF, buildV → JG, fillV → JH, splice → JI, results → JU, resV → JV, isCell → JW, nilCheckV → JY, allV → Ke, builtinV → Kf, lenV → Kg, indexAddrV → Kh, unOp → Ki, minmaxV → Kj, minmax → Kk, sliceV → Kl, bound → Km, asInt → Kn, idx → Ko, idxLe → Kp, appendV → Kq, copyV → Kr, clearV → Ks, convV → Kt, putBlk → Ku, sliceCells → Kv, newBlk → Kw, buildSliceV → Kx, shift → Ky
open Bool renaming not_not → Jc, not_true → J1, not_false → J2, true_beq → J3, false_beq → J4, and_true → JA, true_and → JB, or_false → K4, or_true → K5, true_or → K6, false_or → K7, and_false → K8, false_and → K9
open Option renaming bind_some → Jm, isSome_none → K0, isNone_none → K1, isSome_some → K2, isNone_some → K3
open List renaming getD_cons_zero → Jn, getD_cons_succ → Jo, set_cons_zero → Jp, set_cons_succ → Jq, getElem?_cons_zero → Jr, getElem?_cons_succ → Js, getElem?_nil → Jt, elem_cons → JC, elem_nil → JD, toList_toArray → JE, zip → JJ, map_cons → JK, map_nil → JL, all_cons → JM, all_nil → JN, length_cons → JO, length_nil → JP, take → JQ, drop → JR, cons_append → JS, nil_append → JT, set → JX, append_nil → Kd, append_assoc → KD, length_append → KE, length_set → KF, replicate_zero → KG, flatten_nil → KH, set_set → KI
open Nat renaming mul_one → JZ, zero_add → Ka, add_zero → Kb, le_refl → Kc, add_sub_cancel_left → KA, sub_self → KC
open Go.Proofs

def blen (m : Nat) : Nat := if m = 0 then 0 else Nat.log2 m + 1
def lenTab (S : ByteArray) : Bool := decide (S.size = 256) && (List.range 256).all fun i => decide (S.data.toList[i]? = some (UInt8.ofNat (blen i)))
theorem blen_8 : ((List.range 256).all fun m => decide (m < 2 ^ blen m) && (decide (blen m = 0) || decide (2 ^ (blen m - 1) ≤ m)) && decide (blen m ≤ 8)) = true := by decide +kernel
theorem tab_ok {S : ByteArray} (hS : lenTab S = true) {m : Int} (h : 0 ≤ m ∧ m < 256) {R : Type} {k : V → Option R} {Q : R → Prop}
    (hk : ∀ c : Int, 0 ≤ c → c ≤ 8 → m < 2 ^ c.toNat → (c = 0 ∨ 2 ^ (c.toNat - 1) ≤ m) → Ev.Ok (k (.int .u8 c)) Q) : Ev.Ok (bnd (indexV X.ty 9 (.v (.str S)) (.v (.int .u8 m))) k) Q := by
  simp only [lenTab, Bool.and_eq_true, decide_eq_true_eq, List.all_eq_true, List.mem_range] at hS
  obtain ⟨h1, h2⟩ := hS
  have h3 := h2 m.toNat (by omega)
  have hb := List.all_eq_true.1 blen_8 m.toNat (List.mem_range.2 (by omega))
  simp only [Bool.and_eq_true, decide_eq_true_eq, Bool.or_eq_true] at hb
  obtain ⟨⟨b1, b2⟩, b3⟩ := hb
  have e : indexV X.ty 9 (.v (.str S)) (.v (.int .u8 m)) = some (.int .u8 (blen m.toNat)) := by
    unfold indexV
    rw [ty9]
    simp only [idx]
    rw [grd_t (by rw [h1]; omega)]
    simp only [bnd_s]
    rw [h3]
    simp only [bnd_s]
    congr 2
    rw [UInt8.toNat_ofNat']
    omega
  rw [e]
  refine hk _ (by omega) (by omega) ?_ ?_
  · rw [Int.toNat_natCast]
    have : (m.toNat : Int) < 2 ^ blen m.toNat := by exact_mod_cast b1
    omega
  · rw [Int.toNat_natCast]
    rcases b2 with b2 | b2
    · left; omega
    · right
      have : (2 : Int) ^ (blen m.toNat - 1) ≤ m.toNat := by exact_mod_cast b2
      omega
theorem fd32 (a : Int) : a.fdiv (2 ^ min 32 IntKind.u64.bits) = a / 4294967296 := Int.fdiv_eq_ediv_of_nonneg a (by decide)
theorem fd16 (a : Int) : a.fdiv (2 ^ min 16 IntKind.u64.bits) = a / 65536 := Int.fdiv_eq_ediv_of_nonneg a (by decide)
theorem fd8 (a : Int) : a.fdiv (2 ^ min 8 IntKind.u64.bits) = a / 256 := Int.fdiv_eq_ediv_of_nonneg a (by decide)
theorem u8_wrap (x : Int) : IntKind.u8.wrap x = x % 256 := by
  simp only [IntKind.wrap, IntKind.signed, IntKind.bits]
  simp
theorem u8_small {x : Int} (h : 0 ≤ x ∧ x < 256) : IntKind.u8.wrap x = x := by rw [u8_wrap]; omega

/-- The length of a number in bits. -/
def LenOk (n : Int) (L : Int) : Prop := 0 ≤ L ∧ L ≤ 64 ∧ n < 2 ^ L.toNat ∧ (L = 0 ∨ 2 ^ (L.toNat - 1) ≤ n)

theorem len_leaf {n : Int} (s : Nat) {q c : Int} (hs : s ≤ 56) (hq : q = n / 2 ^ s) (h0 : s = 0 ∨ 0 < q) (c0 : 0 ≤ c) (c8 : c ≤ 8) (b1 : q < 2 ^ c.toNat) (b2 : c = 0 ∨ 2 ^ (c.toNat - 1) ≤ q) : LenOk n ((s : Int) + c) := by
  have hp : (0 : Int) < 2 ^ s := Int.pow_pos (by omega)
  have hd := Int.mul_ediv_add_emod n (2 ^ s)
  have hr0 := Int.emod_nonneg n (by omega : (2 : Int) ^ s ≠ 0)
  have hr1 := Int.emod_lt_of_pos n hp
  rw [← hq] at hd
  have e1 : ((s : Int) + c).toNat = s + c.toNat := by omega
  refine ⟨by omega, by omega, ?_, ?_⟩
  · rw [e1, Int.pow_add]
    have h1 : q + 1 ≤ 2 ^ c.toNat := by omega
    have := Int.mul_le_mul_of_nonneg_left h1 (Int.le_of_lt hp)
    rw [Int.mul_add] at this
    omega
  · by_cases hz : c = 0
    · rcases h0 with rfl | h0
      · left; omega
      · subst hz
        simp at b1
        omega
    · right
      have b2' : (2 : Int) ^ (c.toNat - 1) ≤ q := by rcases b2 with b2 | b2; exact absurd b2 hz; exact b2
      rw [e1, show s + c.toNat - 1 = s + (c.toNat - 1) by omega, Int.pow_add]
      have := Int.mul_le_mul_of_nonneg_left b2' (Int.le_of_lt hp)
      omega

theorem len64_at {n : Int} (h0 : 0 ≤ n) (h1 : n < 18446744073709551616) (h : Heap) : Ev.Ok (D X (.fn 57 []) [.int .u64 n] h) fun y => ∃ L : Int, y = (.int .i64 L, h) ∧ LenOk n L := by
  refine Ok.aim fun Q hQ => ?_
  have hQ' := Hid.mk hQ
  clear hQ
  have hfin : ∀ (s : Nat) (D q c r : Int), D = 2 ^ s → s ≤ 56 → q = n / D → (s = 0 ∨ 0 < q) → 0 ≤ c → c ≤ 8 → q < 2 ^ c.toNat → (c = 0 ∨ 2 ^ (c.toNat - 1) ≤ q) → r = s + c → Q (.int .i64 r, h) := by
    intro s D q c r e0 a1 a2 a3 a4 a5 a6 a7 a8
    subst e0 a8
    exact hQ'.out _ ⟨_, rfl, len_leaf s a1 a2 a3 a4 a5 a6 a7⟩
  have hfin' := Hid.mk hfin
  clear hfin
  (refine Ok.body body57 pin57 ?_; simp only [c57, Try.f57, Option.getD_some, nslot57, List.append_nil, List.map, List.replicate, List.length_cons, List.length_nil, Nat.reduceAdd, Nat.reduceSub, List.cons_append, List.nil_append])
  (repeat' (first | (simp -implicitDefEqProofs (maxSteps := 1000000) (disch := first | assumption | omega | (simp only [KE, JO, JP, KF]; omega)) only [*, fd32, fd16, fd8, u8_small, ty3, ty5, ty9, ty100, slot57, Za, Zb, Zc, Zd, Ze, Zf, Zg, Zh, Zi, Zj, and_true, true_and, Ja, Jb, Jc, cond_true, cond_false, Jd, Je, Jf, Jg, Jh, Ji, Jj, St.put, Jk, Jl, Jm, Jn, Jo, Jp, Jq, Jr, Js, Jt, decide_true, decide_false, Nat.reduceEqDiff, Ju, Jv, Jw, Jx, Jy, rd, TI.kind, Nat.reduceLT, Nat.reduceAdd, and_self, Jz, J0, J1, J2, J3, J4, beq_self_eq_true, J5, J6, J7, J8, J9, JA, JB, Op.operands, JC, JD, JE, JF, JG, JH, JI, JJ, JK, JL, Nat.reduceBEq, JM, JN, JO, JP, JQ, JR, JS, JT, JU, JV, JW, wr, JX, JY, Nat.reduceSub, Nat.reduceMul, JZ, Ka, Kb, Kc, Kd, Ke, Kf, Kg, Kh, Ki, Kj, Kk, Kl, Km, Kn, Ko, Kp, Kq, Kr, Ks, Kt, Ku, Kv, Kw, Kx, Ky, Kz, K0, K1, K2, K3, K4, K5, K6, K7, K8, K9, KA, KC, KD, reduceCtorEq, Int.reduceLT, Int.reduceLE, Int.reduceAdd, Int.reduceSub, Int.reduceNeg, Int.reduceToNat, Int.reduceEq, KE, KF, Nat.reduceLeDiff, KG, KH, KI, or_true, true_or, or_false, false_or]) | ((with_reducible (first | refine Ok.br ?_ ?_ | refine Ok.gd ?_ ?_ | refine Ok.ld ?_ ?_)) <;> (intro g; (try simp only [Zz] at g); (first | (exfalso; omega) | skip)))))
  all_goals (
    refine tab_ok (by decide +kernel) ⟨by omega, by omega⟩ fun c c0 c8 b1 b2 => ?_
    have hb1 := Hid.mk b1
    have hb2 := Hid.mk b2
    clear b1 b2
    (repeat' (first | (simp -implicitDefEqProofs (maxSteps := 1000000) (disch := first | assumption | omega | (simp only [KE, JO, JP, KF]; omega)) only [*, fd32, fd16, fd8, u8_small, ty3, ty5, ty9, ty100, slot57, Za, Zb, Zc, Zd, Ze, Zf, Zg, Zh, Zi, Zj, and_true, true_and, Ja, Jb, Jc, cond_true, cond_false, Jd, Je, Jf, Jg, Jh, Ji, Jj, St.put, Jk, Jl, Jm, Jn, Jo, Jp, Jq, Jr, Js, Jt, decide_true, decide_false, Nat.reduceEqDiff, Ju, Jv, Jw, Jx, Jy, rd, TI.kind, Nat.reduceLT, Nat.reduceAdd, and_self, Jz, J0, J1, J2, J3, J4, beq_self_eq_true, J5, J6, J7, J8, J9, JA, JB, Op.operands, JC, JD, JE, JF, JG, JH, JI, JJ, JK, JL, Nat.reduceBEq, JM, JN, JO, JP, JQ, JR, JS, JT, JU, JV, JW, wr, JX, JY, Nat.reduceSub, Nat.reduceMul, JZ, Ka, Kb, Kc, Kd, Ke, Kf, Kg, Kh, Ki, Kj, Kk, Kl, Km, Kn, Ko, Kp, Kq, Kr, Ks, Kt, Ku, Kv, Kw, Kx, Ky, Kz, K0, K1, K2, K3, K4, K5, K6, K7, K8, K9, KA, KC, KD, reduceCtorEq, Int.reduceLT, Int.reduceLE, Int.reduceAdd, Int.reduceSub, Int.reduceNeg, Int.reduceToNat, Int.reduceEq, KE, KF, Nat.reduceLeDiff, KG, KH, KI, or_true, true_or, or_false, false_or]) | ((with_reducible (first | refine Ok.br ?_ ?_ | refine Ok.gd ?_ ?_ | refine Ok.ld ?_ ?_)) <;> (intro g; (try simp only [Zz] at g); (first | (exfalso; omega) | skip)))))
    first
      | exact hfin'.out 0 1 _ c _ (by decide) (by decide) (by omega) (.inl rfl) c0 c8 hb1.out hb2.out (by omega)
      | exact hfin'.out 8 256 _ c _ (by decide) (by decide) (by omega) (.inr (by omega)) c0 c8 hb1.out hb2.out (by omega)
      | exact hfin'.out 16 65536 _ c _ (by decide) (by decide) (by omega) (.inr (by omega)) c0 c8 hb1.out hb2.out (by omega)
      | exact hfin'.out 24 16777216 _ c _ (by decide) (by decide) (by omega) (.inr (by omega)) c0 c8 hb1.out hb2.out (by omega)
      | exact hfin'.out 32 4294967296 _ c _ (by decide) (by decide) (by omega) (.inr (by omega)) c0 c8 hb1.out hb2.out (by omega)
      | exact hfin'.out 40 1099511627776 _ c _ (by decide) (by decide) (by omega) (.inr (by omega)) c0 c8 hb1.out hb2.out (by omega)
      | exact hfin'.out 48 281474976710656 _ c _ (by decide) (by decide) (by omega) (.inr (by omega)) c0 c8 hb1.out hb2.out (by omega)
      | exact hfin'.out 56 72057594037927936 _ c _ (by decide) (by decide) (by omega) (.inr (by omega)) c0 c8 hb1.out hb2.out (by omega))

end Go.Ev
