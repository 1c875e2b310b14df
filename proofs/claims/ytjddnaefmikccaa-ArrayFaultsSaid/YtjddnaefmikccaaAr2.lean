/- Texts repeated; a new disk. No condition. -/
import Derived.Test.YtjddnaefmikccaaAr1
set_option linter.unusedSimpArgs false
set_option linter.unusedVariables false
set_option maxRecDepth 100000
namespace Go.Eng
open Go Go.RowKit Go.Lib
section
variable {P : Program} {env : Env} {ty : TypeId} {c : Nat → Nat} {w : World} {i : Nat} {e : TypeId} {size : Nat} {v : Value} {n : Nat} {xs : List Value}
/-- copy(v[a:], s), and how many. -/
theorem Eff.copyV {t t2 : TypeId} {by_ : Nat} {z : List Value} {x y : Operand} {a m : Nat} {sv : Value} {news : List Value} (ht : slT P t = some (e, size, by_, z)) (hown : OwnC c w i e size v n xs) (hn : 0 < n) (ha : a ≤ n) (hx : evO env x = some (subV v a n size)) (hy : evO env y = some sv)
    (hlen : ∀ W : World, (Builtin.lenOf sv).run P W = .ok m W) (hfc : ∀ W : World, W.heap = w.heap → (Builtin.firstCells size (Nat.min m (n - a)) sv).run P W = .ok news.toArray W) (hnl : news.length = Nat.min m (n - a) * size) (h1 : ∀ y ∈ news, y.oneCell' = true) :
    Eff P env w (.call ⟨.builtin .copy, #[x, y], #[t, t2]⟩) ty (fun u w' => ∃ c', Mv c w c' w' [i] ∧ OwnC c' w' i e size v n (xs.take (a * size) ++ news ++ xs.drop (a * size + news.length)) ∧ u = I (Nat.min m (n - a) : Nat)) :=
  Eff.of_run fun _ ac ho d pos after g => by
    obtain ⟨hu, inf, zv, hi, hs, hb', hz', hc', hl'⟩ := slT_spec ht
    have hmn : Nat.min m (n - a) * size ≤ (n - a) * size := Nat.mul_le_mul_right _ (Nat.min_le_right _ _)
    have hna : a * size + (n - a) * size = n * size := by rw [← Nat.add_mul]; congr 1; omega
    obtain ⟨g', cap, w', rfl, hst, h2, h3⟩ := hown.put (P := P) (o := a * size) (news := news) hn (by omega) h1
    have hf := hfc w rfl
    refine ⟨I ((Nat.min m (n - a) : Nat) : Int), w', ?_, c, h3, h2, rfl⟩
    by_cases hca : cap = a
    · have hna0 : n - a = 0 := by
        have := hown.own.len
        obtain ⟨A, cp, he, h4, _⟩ := this
        injection he with _ _ he
        omega
      have hm0 : Nat.min m (n - a) = 0 := by rw [hna0]; exact Nat.min_zero m
      have hn0 : news = [] := List.eq_nil_of_length_eq_zero (by rw [hnl, hm0, Nat.zero_mul])
      subst hn0
      have hw : w' = w := by simp [storeCells] at hst; exact hst.symm
      subst hw
      rw [hm0] at hf
      simp [execOp, resolve, invoke, builtin, Builtin.copy_, ho.eval hx, ho.eval hy, run_underlying hu, sizeOf, typeInfo, hi, hs, hlen, subV, hca, hna0, hf, goInt, storeCells]
    · simp [execOp, resolve, invoke, builtin, Builtin.copy_, ho.eval hx, ho.eval hy, run_underlying hu, sizeOf, typeInfo, hi, hs, hlen, subV, hca, hf, hst, goInt, add_lit]
theorem rep_fill {α : Type} (a b : α) {k m n : Nat} (hk : k ≤ n) (hm : m ≤ n - k) (hmk : m ≤ k) :
    (List.replicate k a ++ List.replicate (n - k) b).take k ++ (List.replicate k a).take m ++ (List.replicate k a ++ List.replicate (n - k) b).drop (k + m) = List.replicate (k + m) a ++ List.replicate (n - (k + m)) b := by
  rw [List.take_left' (by simp), List.take_replicate, Nat.min_eq_left hmk, List.drop_append, List.drop_replicate, List.drop_replicate, List.length_replicate]
  have e1 : k - (k + m) = 0 := by omega
  have e2 : n - k - (k + m - k) = n - (k + m) := by omega
  rw [e1, e2]; simp
theorem subV_none {g n cp : Nat} : subV (.slice (some ⟨g, 0, none⟩) n cp) 0 n 1 = .slice (some ⟨g, 0, none⟩) n cp := by simp [subV, add_lit]
theorem subV_to {g n cp k : Nat} : subV (.slice (some ⟨g, 0, none⟩) n cp) 0 k 1 = .slice (some ⟨g, 0, none⟩) k cp := by simp [subV, add_lit]
theorem lenOf_sl (P : Program) (A : Option Addr) (n cp : Nat) (W : World) : (Builtin.lenOf (.slice A n cp)).run P W = .ok n W := by cases A <;> simp [Builtin.lenOf]
theorem cellsAt_heap {w W : World} {p : Addr} {xs : List Value} (h : W.heap = w.heap) (hc : cellsAt w p xs) : cellsAt W p xs := fun j v hj => by
  have := hc j v hj
  rw [← this]; exact World.cell?_of_block (by rw [h])
theorem flatten_one {α : Type} (n : Nat) (a : α) : (List.replicate n [a]).flatten = List.replicate n a := by induction n with
  | zero => rfl
  | succ n ih => rw [List.replicate_succ, List.flatten_cons, ih, List.replicate_succ]; rfl
end
end Go.Eng
namespace Go.Proofs.Ytjddnaefmikccaa
open Go Go.Eng Go.RowKit Go.Sort TryT

theorem bitsMul_ok {w : World} {x y : Nat} (hx : x < 18446744073709551616) (hy : y < 18446744073709551616) (h : x * y < 9223372036854775808) : Calls Try.prog 58 #[.int .u64 x, .int .u64 y] w (Ret fun v w' => Below w.heap.size w w' ∧ v = .tuple #[.int .u64 0, .int .u64 ((x * y : Nat) : Int)]) := by
  refine (Try.bits_Mul x y hx hy w).mono fun e w' he => ?_
  obtain ⟨rfl, rfl⟩ := he
  refine ⟨_, rfl, Below.refl _ _, ?_⟩
  rw [Nat.div_eq_of_lt (by omega), Nat.mod_eq_of_lt (by omega)]; rfl
theorem repeatT_ok {w : World} {s : List UInt8} {n : Nat} (h : s.length * n ≤ 140737488355328) (hn : n ≤ 9223372036854775807) : Calls Try.prog 53 #[St s, I n] w (Ret fun v w' => Below w.heap.size w w' ∧ v = St (Go.Lib.repeatL s n)) := by
  refine (Try.strings_Repeat ⟨s.toArray⟩ n w hn (by simpa [ByteArray.size] using h)).mono fun e w' he => ?_
  obtain ⟨rfl, hb⟩ := he
  exact ⟨_, rfl, hb, by simp⟩

set_option maxHeartbeats 1000000 in
theorem repeatS_ok {w : World} {b n : Nat} {s : List UInt8} (hb0 : Blk w b [St s] 9) (h0 : 0 < n) (hn : n ≤ 1048576) : Calls Try.prog 52 #[.slice (some ⟨b, 0, none⟩) 1 1, I n] w (Ret fun v w' => Below w.heap.size w w' ∧ Own w' w.heap.size 9 1 v n (List.replicate n (St s))) := by
  obtain ⟨c, hO, hc⟩ := OldC.start w
  have hb : BlkC c w 0 b [St s] 9 := ⟨hb0, hc _⟩
  clear hc hb0
  refine enter (n := 48) (res := #[.tmp 4]) Try.func52 rfl rfl rfl rfl ?_
  refine cseq <| cg <| za rfl <| cnil <| cseq <| cseq <| cg <| zm rfl <| vq (Val.lss rfl rfl) ?_
  refine cnil ?_
  refine WC.cond rfl (fun hc1 => ?_) (fun hc1 => ?_)
  ·exact absurd (of_decide_eq_true hc1) (by omega)
  ·try simp only [tstS] at hc1
   refine cskip <| cseq <| cg <| zm rfl ?_
   first | refine vq (Val.rdlen sl59 (by assumption) rfl) ?_ | refine vq (Val.sllen Try.underlying59 rfl) ?_ | refine vq (Val.olen sl59 (by assumption) rfl) ?_ | refine vq (Val.rdlenC sl59 (by assumption) rfl) ?_
   refine vq (Val.convToU64 Try.underlying3 Try.underlying71 rfl (by omega) (by omega)) <| zm rfl <| vq (Val.convToU64 Try.underlying3 Try.underlying71 rfl (by omega) (by omega)) ?_
   refine ve (Eff.pureC c 1 (Eff.call pf58 rfl (bitsMul_ok (x := 1) (y := n) (by omega) (by omega) (by omega)))) ?_
   rintro v18 w1 ⟨c1, hM1, hx1, rfl⟩
   replace hO := hO.mv hM1; replace hb := hb.mv hM1
   refine zm rfl <| vq (Val.extract rfl rfl) <| vq (Val.extract rfl rfl) <| za rfl <| za rfl <| cnil <| cseq <| cseq <| cg ?_
   refine zm rfl <| vq (Val.gtr rfl rfl) <| zm rfl ?_
   apply WR.sc false 2 _ (fun w' => w1 = w')
   case hl | hg | hu | hv | hs | hoff | hd => rfl
   case hF => exact fun _ => rfl
   case hT =>
    intro hq5
    try simp only [tstS] at hq5
    simp only [List.take_succ_cons, List.take_zero]
    refine WR.on rfl rfl ?_
    refine zm rfl ?_
    refine WR.on rfl rfl ?_
    refine vq (Val.gtr rfl rfl) ?_
    exact WR.nil ⟨rfl, Sub.drop _ 2 _ rfl rfl, rfl⟩
   rintro _ rfl
   refine cnil ?_
   refine WC.cond rfl (fun hc4 => ?_) (fun hc4 => ?_)
   ·exact absurd hc4 (by simp; omega)
   ·try simp only [tstS] at hc4
    refine cskip <| cseq <| cg <| zm rfl <| vq (Val.convTo64 Try.underlying71 Try.underlying3 rfl (by omega) (by omega)) ?_
    rw [Nat.one_mul]
    refine ve (Eff.makeC c1 7 sl59 rfl rfl (by omega) (by omega) (by omega)) ?_
    rintro v30 w20 ⟨c20, hM20, ho⟩
    replace hO := hO.mv hM20; replace hb := hb.mv hM20
    rw [Int.toNat_natCast, flatten_one] at ho
    obtain ⟨g, cp, rfl, hcp, hcp2⟩ := ho.posForm h0
    have hm1 : Nat.min 1 (n - 0) = 1 := Nat.min_eq_left (by omega)
    have hfc : ∀ W : World, W.heap = w20.heap → (Builtin.firstCells 1 (Nat.min 1 (n - 0)) (.slice (some ⟨b, 0, none⟩) 1 1)).run Try.prog W = .ok [St s].toArray W := fun W hW => by rw [hm1]; exact run_firstCells_some (P := Try.prog) W 1 1 _ 1 1 [St s] rfl (cellsAt_heap hW hb.blk.cellsAt)
    have hnl : [St s].length = Nat.min 1 (n - 0) * 1 := by rw [hm1]; rfl
    refine za rfl <| cnil <| cseq <| cg <| zm rfl <| zm rfl ?_
    refine ve ((Eff.copyV (a := 0) (news := [St s]) (m := 1) sl59 ho h0 (by omega) (by rw [subV_none]; rfl) rfl (lenOf_sl _ _ _ _) hfc hnl ones)) ?_
    rintro v33 w2 ⟨c2, hM2, ho, rfl⟩
    replace hO := hO.mv hM2; replace hb := hb.mv hM2
    rw [hm1]
    refine za rfl <| cnil <| cseq <| cblock ?_
    refine WC.loop (σ := Nat) (fun k => [(7, .slice (some ⟨g, 0, none⟩) n cp), (8, I k)]) (fun k w' => ∃ c', OldC w c' w' ∧ OwnC c' w' 7 9 1 (.slice (some ⟨g, 0, none⟩) n cp) n (List.replicate k (St s) ++ List.replicate (n - k) (St [])) ∧ 1 ≤ k ∧ k ≤ n) (fun k => n - k) 1 subs ⟨_, hO, by simpa using ho, by omega, h0⟩ ?_
    clear ho hO hb
    rintro k wl ⟨cl, hO, ho, hk1, hk2⟩
    have hmn : Nat.min k (n - k) ≤ k := Nat.min_le_left _ _
    have hmn2 : Nat.min k (n - k) ≤ n - k := Nat.min_le_right _ _
    have hnl : ((List.replicate k (St s)).drop (0 * 1) |>.take (Nat.min k (n - k) * 1)).length = Nat.min k (n - k) * 1 := by simp
    have hon : ∀ y ∈ (List.replicate k (St s)).drop (0 * 1) |>.take (Nat.min k (n - k) * 1), y.oneCell' = true := fun y hy => by
      have := List.eq_of_mem_replicate (List.mem_of_mem_drop (List.mem_of_mem_take hy))
      rw [this]; rfl
    refine cseq <| cseq <| cg <| zm rfl <| zm rfl ?_
    first | refine vq (Val.rdlen sl59 (by assumption) rfl) ?_ | refine vq (Val.sllen Try.underlying59 rfl) ?_ | refine vq (Val.olen sl59 (by assumption) rfl) ?_ | refine vq (Val.rdlenC sl59 (by assumption) rfl) ?_
    refine vq (Val.lss rfl rfl) <| cnil ?_
    refine WC.cond rfl (fun hc8 => ?_) (fun hc8 => ?_)
    ·try simp only [tstS] at hc8
     refine cskip <| cblock ?_
     refine WC.regionD (Kp cl wl [7]) [0, 0, 0, 0, 0, 0, 0, 2, 0, 0] [0, 1, 2, 3, 4, 5, 6, 7, 8, 9] mixed (by kernel_rfl) ?_
     have hM3 := Mv.drew cl wl []
     have hCw := Mv.drew cl wl [7]
     generalize wl.drew = w3 at hM3 hCw ⊢
     replace hO := hO.mv hM3; replace ho := ho.mv hM3
     refine zdm rfl rfl <| zdm rfl rfl <| zdm rfl rfl <| vd rfl (fun _ => Val.partFrom sl59 rfl rfl (by omega) (by omega)) <| zdm rfl rfl <| zdm rfl rfl <| vd rfl (fun _ => Val.partTo sl59 rfl rfl (by omega) (by omega)) ?_
     have hho := ho.to hk2
     rw [Nat.mul_one, List.take_left' (by simp), subV_to] at hho
     have hfc9 := hho.firstFrom (P := Try.prog) (k := 0) (m := Nat.min k (n - k)) (by rw [Nat.zero_add]; exact Nat.min_le_left _ _)
     rw [subV_none] at hfc9
     refine WD.eff rfl rfl rfl ((Eff.copyV (x := .tmp 41) (y := .tmp 44) (a := k) (m := k) sl59 ho h0 hk2 rfl rfl (by rw [subV_to]; exact lenOf_sl _ _ _ _) (by rw [subV_to]; exact hfc9) hnl hon)) rfl ?_
     rintro v45 w4 ⟨c4, hM4, ho, rfl⟩
     refine ⟨fun hC => hC.step hCw hM4 rfl, ?_⟩
     replace hCw := hCw.tr hM4 rfl
     replace hO := hO.mv hM4
     refine vd rfl (fun _ => Val.addI rfl rfl side side) <| zda rfl rfl ?_
     refine WD.nil ?_
     clear hCw
     have hmn3 : 0 < Nat.min k (n - k) := by have := hc8; rw [show Nat.min k (n - k) = min k (n - k) from rfl]; omega
     refine ⟨k + Nat.min k (n - k), subs, ⟨_, hO, ?_, by omega, by omega⟩, by omega⟩
     have e := rep_fill (St s) (St []) hk2 hmn2 hmn
     simp only [Nat.mul_one, Nat.zero_mul, List.drop_zero] at ho
     rw [show ((List.replicate k (St s)).take (Nat.min k (n - k))).length = Nat.min k (n - k) by rw [List.length_take, List.length_replicate]; exact Nat.min_eq_left hmn, e] at ho
     exact ho
    ·try simp only [tstS] at hc8
     have : k = n := by omega
     subst this
     rw [Nat.sub_self] at ho
     refine WC.exit rfl ?_
     refine cseq <| cg <| zm rfl <| za rfl <| cnil ?_
     refine WC.ret1 rfl rfl ?_
     exact ⟨hO.below, by simpa using ho.fromOldA hO (by decide)⟩

/-- What a new sector holds. -/
def zeroT : List UInt8 := List.replicate 64 0
theorem rep64 : Go.Lib.repeatL [0] 64 = zeroT := by rfl
/-- A new disk's parts. -/
theorem fresh_ok {w : World} {n : Nat} (h0 : 0 < n) (hn : n ≤ 1048576) : Calls Try.prog 27 #[I n] w (Ret fun u w' => Below w.heap.size w w' ∧ ∃ lv mb, u = .agg #[.bool true, lv, .map (some mb)] ∧ w.heap.size ≤ mb ∧ Own w' w.heap.size 9 1 lv n (List.replicate n (St zeroT)) ∧ MapW w' mb (List.replicate n [])) := by
  obtain ⟨c, hO, hc⟩ := OldC.start w
  clear hc
  refine enter (n := 9) (res := #[.cell 2 62]) Try.func27 rfl rfl rfl rfl ?_
  refine cseq <| cg ?_
  refine ve (Eff.allocC c 102 zero62) ?_
  rintro _ w1 ⟨b2, c1, rfl, hM1, hb2⟩
  replace hO := hO.mv hM1
  refine cnil <| cseq <| cg ?_
  refine ve (Eff.pureC c1 1 (Eff.call pf53 rfl (repeatT_ok (s := [0]) (n := 64) (by decide) (by decide)))) ?_
  rintro v3 w2 ⟨c2, hM2, hx2, rfl⟩
  replace hO := hO.mv hM2; replace hb2 := hb2.mv hM2
  rw [rep64]
  refine ve (Eff.build1C c2 104 sl59 rfl rfl rfl rfl rfl) ?_
  rintro _ w3 ⟨b4, c3, rfl, hM3, hb4⟩
  replace hO := hO.mv hM3; replace hb2 := hb2.mv hM3
  refine zm rfl ?_
  refine ve (Eff.pureC c3 7 (Eff.call pf52 rfl (repeatS_ok hb4.blk h0 hn))) ?_
  rintro v6 w4 ⟨c4, hM4, hx4, hL⟩
  replace hO := hO.mv hM4; replace hb2 := hb2.mv hM4; replace hb4 := hb4.mv hM4
  replace hL := hL.toC hx4
  obtain ⟨g, cp, rfl, hcp, hcp2⟩ := hL.posForm h0
  have hle := hO.le
  refine ve (Eff.pureC c4 8 ((Eff.makeMap n))) ?_
  rintro v7 w5 ⟨c5, hM5, hx5, ⟨rfl, hm0, _⟩⟩
  replace hO := hO.mv hM5; replace hb2 := hb2.mv hM5; replace hb4 := hb4.mv hM5; replace hL := hL.mv hM5
  have hm : MapC c5 w5 8 w4.heap.size (List.replicate n []) := ⟨hm0, hx5 _ (Nat.le_refl _)⟩
  refine vq (Val.build (cells := #[.bool true, .slice (some ⟨g, 0, none⟩) n cp, .map (some w4.heap.size)]) rfl (by kernel_rfl)) ?_
  refine WR.eff_ (Eff.storeNC agg62 rfl rfl hb2 rfl rfl ones) ?_
  rintro _ w6 ⟨hS, hM6⟩
  replace hO := hO.mv hM6; replace hb4 := hb4.mv hM6; replace hL := hL.mv hM6; replace hm := hm.mv hM6
  replace hb2 := hS
  refine cnil ?_
  refine WC.retR1 rfl (RVal.cellN agg62 rfl hb2.blk rfl) ?_
  exact ⟨hO.below, _, _, rfl, hle, hL.fromOldA hO (by decide), hm.obj⟩
end Go.Proofs.Ytjddnaefmikccaa
