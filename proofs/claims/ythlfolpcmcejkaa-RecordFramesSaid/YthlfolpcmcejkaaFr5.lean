/- The frames that a text begins with: the program. No condition. -/
import Derived.Test.YthlfolpcmcejkaaFr4
set_option linter.unusedSimpArgs false
set_option linter.unusedVariables false
set_option maxRecDepth 100000
namespace Go.Proofs.Ythlfolpcmcejkaa
open Go Go.Eng Go.RowKit Silo TryT

theorem walk_ok {w : World} {s : List UInt8} :
    Calls Try.prog 57 #[St s] w (Ret fun u w' => Below w.heap.size w w' ∧ ∃ b1, u = .func (.func 69) #[] #[.pointer (some ⟨b1, 0, none⟩)] ∧ w.heap.size ≤ b1 ∧ Blk w' b1 [St s] 9) := by
  obtain ⟨c, hO, hc⟩ := OldC.start w
  clear hc
  refine enter (n := 4) (res := #[.tmp 2]) Try.func57 rfl rfl rfl rfl ?_
  refine cseq <| cg ?_
  refine ve (Eff.box1C c 101 rfl ra) ?_
  rintro _ w1 ⟨b1, c1, rfl, hM1, hb1⟩
  replace hO := hO.mv hM1
  refine za rfl <| cnil <| cseq <| cg <| vq (Val.makeFunc rfl) <| za rfl <| cnil ?_
  refine WC.ret1 rfl rfl ?_
  refine ⟨hO.below, _, rfl, ?_, hb1.blk⟩
  rcases Nat.lt_or_ge b1 w.heap.size with h | h
  · have := hO.col _ h; rw [hb1.col] at this; cases this
  · exact h

theorem framesG_stop2 {f : Nat} {u : List UInt8} {l : List Rec} {first bytes k z : Nat} {r : Rec} (h : takeF u = some (r, k, z)) (hl : l ≠ []) (hk : k ≠ first + l.length) : framesG (f + 1) u l first bytes = (l, first, bytes) := by
  rw [framesG, h]
  dsimp only
  rw [if_neg (by simp [hl, hk])]
theorem _root_.Go.Eng.OldC.acc {w0 w : World} {c : Nat → Nat} (_ : OldC w0 c w) (K : List Nat) : Acc c w K c w := Acc.refl _ _ _
/-- What the program's loop knows between two frames. -/
structure FrI (w : World) (s : List UInt8) (pre : List FrX) (d : Nat → Nat) (A : World) (b2 b3 b4 : Nat) (first : Nat) : Prop where
  hO : OldC w d A
  row : ∃ vl css, BlkC d A 102 b2 [vl] 22 ∧ OwnC d A 7 TX 6 vl pre.length css.flatten ∧ EachO d A css (pre.map fun x => x.2.1)
  hb3 : BlkC d A 103 b3 [I first] 3
  hb4 : BlkC d A 104 b4 [I (endF pre)] 3
  hf : first ≤ 1073741824
  hp : endF pre ≤ s.length
  hl : pre.length ≤ endF pre
  hfr : framesS s = framesG (s.length - endF pre + 1) (s.drop (endF pre)) (pre.map fun x => x.2.1) first (endF pre)
theorem FrI.mv {w w1 w2 : World} {s : List UInt8} {pre : List FrX} {d d' : Nat → Nat} {b2 b3 b4 first : Nat} {I : List Nat} (h : FrI w s pre d w1 b2 b3 b4 first) (m : Mv d w1 d' w2 I) (h0 : hasC I 0 = false := by rfl) (h2 : hasC I 102 = false := by rfl) (h3 : hasC I 103 = false := by rfl) (h4 : hasC I 104 = false := by rfl) (h7 : hasC I 7 = false := by rfl) (h5 : hasC I 5 = false := by rfl) : FrI w s pre d' w2 b2 b3 b4 first :=
  ⟨h.hO.mv m h0, let ⟨vl, css, a, b, e⟩ := h.row; ⟨vl, css, a.mv m h2, b.mv m h7, e.mv m h5⟩, h.hb3.mv m h3, h.hb4.mv m h4, h.hf, h.hp, h.hl, h.hfr⟩
/-- What it knows behind the loop. -/
def FrE (w : World) (s : List UInt8) (d : Nat → Nat) (A : World) (b2 b3 b4 : Nat) : Prop := ∃ vl css l first bytes, OldC w d A ∧ BlkC d A 102 b2 [vl] 22 ∧ OwnC d A 7 TX 6 vl l.length css.flatten ∧ EachO d A css l ∧ BlkC d A 103 b3 [I (first : Nat)] 3 ∧ BlkC d A 104 b4 [I (bytes : Nat)] 3 ∧ framesS s = (l, first, bytes)
theorem FrE.mv {w w1 w2 : World} {s : List UInt8} {d d' : Nat → Nat} {b2 b3 b4 : Nat} {I : List Nat} (h : FrE w s d w1 b2 b3 b4) (m : Mv d w1 d' w2 I) (h0 : hasC I 0 = false := by rfl) (h2 : hasC I 102 = false := by rfl) (h3 : hasC I 103 = false := by rfl) (h4 : hasC I 104 = false := by rfl) (h7 : hasC I 7 = false := by rfl) (h5 : hasC I 5 = false := by rfl) : FrE w s d' w2 b2 b3 b4 := by
  obtain ⟨vl, css, l, first, bytes, a1, a2, a3, a4, a5, a6, e⟩ := h
  exact ⟨vl, css, l, first, bytes, a1.mv m h0, a2.mv m h2, a3.mv m h7, a4.mv m h5, a5.mv m h3, a6.mv m h4, e⟩

set_option maxHeartbeats 2000000 in
theorem frames_ok {w : World} {s : List UInt8} (hs : s.length ≤ 1073741824) : Calls Try.prog 32 #[St s] w (Ret fun v w' => Below w.heap.size w w' ∧ ∃ c' vl css, v = .tuple #[vl, I ((framesS s).2.1 : Nat), I ((framesS s).2.2 : Nat)] ∧ OwnC c' w' 7 TX 6 vl (framesS s).1.length css.flatten ∧ EachO c' w' css (framesS s).1 ∧ OldC w c' w') := by
  obtain ⟨c, hO, hc⟩ := OldC.start w
  clear hc
  refine enter (n := 34) (res := #[.cell 2 22, .cell 3 3, .cell 4 3]) Try.func32 rfl rfl rfl rfl ?_
  refine cseq <| cg ?_
  refine ve (Eff.allocC c 102 zero22) ?_
  rintro _ w1 ⟨b2, c1, rfl, hM1, hb2⟩
  replace hO := hO.mv hM1
  refine ve (Eff.allocC c1 103 zero3) ?_
  rintro _ w2 ⟨b3, c2, rfl, hM2, hb3⟩
  replace hO := hO.mv hM2; replace hb2 := hb2.mv hM2
  refine ve (Eff.allocC c2 104 zero3) ?_
  rintro _ w3 ⟨b4, c3, rfl, hM3, hb4⟩
  replace hO := hO.mv hM3; replace hb2 := hb2.mv hM3; replace hb3 := hb3.mv hM3
  refine cnil <| cseq <| cseq <| cg <| zm rfl ?_
  refine ve (Eff.pureC c3 70 (Eff.call pf57 rfl (walk_ok (s := s)))) ?_
  rintro v8 w4 ⟨c4, hM4, hx4, ⟨p1, rfl, hg1, hB1⟩⟩
  replace hO := hO.mv hM4; replace hb2 := hb2.mv hM4; replace hb3 := hb3.mv hM4; replace hb4 := hb4.mv hM4
  have hp1 : BlkC c4 w4 70 p1 [St s] 9 := ⟨hB1, hx4 _ hg1⟩
  refine cnil ?_
  refine WC.mono (N := (fun e w' => ∃ d D, Sub [(4000000, .tuple #[I' D]), (2, .pointer (some ⟨b2, 0, none⟩)), (3, .pointer (some ⟨b3, 0, none⟩)), (4, .pointer (some ⟨b4, 0, none⟩))] e ∧ FrE w s d w' b2 b3 b4 ∧ DefC d w' D)) ?_ ?_
  ·refine cblock ?_
   refine WC.rangeFuncQ (α := FrX) (encs := fun x => [.agg x.1.toArray, .agg #[I x.2.2.1, I x.2.2.2]]) (κ := [70, 53, 54]) (F := []) (Q := QF s) (Fin := FinF s)
     (fun pre d A => ∃ first, FrI w s pre d A b2 b3 b4 first) [(0, fun _ d A => FrE w s d A b2 b3 b4)] (fun _ _ _ => False) [102, 103, 104, 105, 106, 7] rfl rfl pf69 (walk_iter hs hp1) rfl (fun _ => rfl) (by simp) rfl
     (fun _ d A d' B ⟨f, h⟩ m => ⟨f, h.mv m⟩) (fun p hp => by simp only [List.mem_singleton] at hp; subst hp; exact fun _ d A d' B h m => h.mv m) (fun s d A d' B h _ => h.elim)
     ⟨0, hO, ⟨_, [], hb2, OwnC.nil _ _ _ _ _, eachO0 _ _⟩, hb3, hb4, by omega, by simp [endF], by simp [endF], rfl⟩ ?_ ?_ ?_ ?_
   ·clear hO hb2 hb3 hb4 hp1 hB1
    rintro l pre ⟨cs, r, k, z⟩ d A ⟨first, hO, ⟨vl, css, hb2, ho, he⟩, hb3, hb4, hf, hp, hl, hfr⟩ ⟨hT, hR, hm, hk, hz⟩
    dsimp only at hT hR hm hk hz
    have hzz := takeF_size hT
    obtain ⟨ul, us, rfl, hi1, hi2, hi3⟩ := hR
    obtain ⟨lr, hlr⟩ : ∃ lr, lr = pre.map fun x => x.2.1 := ⟨_, rfl⟩
    have hlen : lr.length = pre.length := by rw [hlr, List.length_map]
    rw [← hlr] at he hfr
    have hA := Acc.refl d A [102, 103, 104, 105, 106, 7]
    have ox := ho.oneC; have cx := ho.cellsV; have ou1 := hi1.oneC; have ou2 := hi2.oneC
    refine cseq <| cg ?_
    refine ve (Eff.allocC d 105 zero31) ?_
    rintro _ w5 ⟨b5, c5, rfl, hM5, hb5⟩
    replace hO := hO.mv hM5; replace hb2 := hb2.mv hM5; replace ho := ho.mv hM5; replace he := he.mv hM5; replace hb3 := hb3.mv hM5; replace hb4 := hb4.mv hM5; replace hi1 := hi1.mv hM5; replace hi2 := hi2.mv hM5; replace hA := hA.mv hM5
    refine WR.eff_ (Eff.storeNC agg31 rfl rfl hb5 rfl rfl ones) ?_
    rintro _ w6 ⟨hS, hM6⟩
    replace hO := hO.mv hM6; replace hb2 := hb2.mv hM6; replace ho := ho.mv hM6; replace he := he.mv hM6; replace hb3 := hb3.mv hM6; replace hb4 := hb4.mv hM6; replace hi1 := hi1.mv hM6; replace hi2 := hi2.mv hM6; replace hA := hA.mv hM6
    replace hb5 := hS
    refine cnil <| cg ?_
    refine ve (Eff.allocC c5 106 zero86) ?_
    rintro _ w7 ⟨b6, c7, rfl, hM7, hb6⟩
    replace hO := hO.mv hM7; replace hb2 := hb2.mv hM7; replace ho := ho.mv hM7; replace he := he.mv hM7; replace hb3 := hb3.mv hM7; replace hb4 := hb4.mv hM7; replace hi1 := hi1.mv hM7; replace hi2 := hi2.mv hM7; replace hA := hA.mv hM7; replace hb5 := hb5.mv hM7
    refine WR.eff_ (Eff.storeNC agg86 rfl rfl hb6 rfl rfl ones) ?_
    rintro _ w8 ⟨hS, hM8⟩
    replace hO := hO.mv hM8; replace hb2 := hb2.mv hM8; replace ho := ho.mv hM8; replace he := he.mv hM8; replace hb3 := hb3.mv hM8; replace hb4 := hb4.mv hM8; replace hi1 := hi1.mv hM8; replace hi2 := hi2.mv hM8; replace hA := hA.mv hM8; replace hb5 := hb5.mv hM8
    replace hb6 := hS
    refine cnil ?_
    refine ⟨_, hA, ?_⟩
    intro A2 hM2
    replace hO := hO.mv hM2; replace hb2 := hb2.mv hM2; replace ho := ho.mv hM2; replace he := he.mv hM2; replace hb3 := hb3.mv hM2; replace hb4 := hb4.mv hM2; replace hi1 := hi1.mv hM2; replace hi2 := hi2.mv hM2; replace hb5 := hb5.mv hM2; replace hb6 := hb6.mv hM2
    replace hb5 : BlkC _ _ 105 b5 [I r.kind, I r.id, St r.name, St r.digest, ul, us] 31 := hb5
    replace hb6 : BlkC _ _ 106 b6 [I (k : Nat), I (z : Nat)] 86 := hb6
    have hA := hO.acc [102, 103, 104, 105, 106, 7]
    refine cblock <| cseq <| cseq <| cg <| vq (Val.loadB scl22 rfl hb2.blk rfl) ?_
    first | refine vq (Val.rdlen sl22 (by assumption) rfl) ?_ | refine vq (Val.sllen Try.underlying22 rfl) ?_ | refine vq (Val.olen sl22 (by assumption) rfl) ?_ | refine vq (Val.rdlenC sl22 (by assumption) rfl) ?_
    refine vq (Val.eql rfl rfl) <| cnil ?_
    refine WC.cond rfl (fun hc4 => ?_) (fun hc4 => ?_)
    ·try simp only [tstS] at hc4
     refine cg <| vq (Val.fieldAddr fld86_0 rfl) <| vq (Val.loadB scl3 rfl hb6.blk rfl) ?_
     refine WR.eff_ (Eff.storeC scl3 rfl rfl ra ra hb3 rfl) ?_
     rintro _ w9 ⟨hS, hM9⟩
     replace hO := hO.mv hM9; replace hb2 := hb2.mv hM9; replace ho := ho.mv hM9; replace he := he.mv hM9; replace hb4 := hb4.mv hM9; replace hi1 := hi1.mv hM9; replace hi2 := hi2.mv hM9; replace hb5 := hb5.mv hM9; replace hb6 := hb6.mv hM9; replace hA := hA.mv hM9
     replace hb3 := hS
     refine cnil <| cseq <| cseq <| cg <| vq (Val.fieldAddr fld86_0 rfl) <| vq (Val.loadB scl3 rfl hb6.blk rfl) <| vq (Val.loadB scl3 rfl hb3.blk rfl) <| vq (Val.loadB scl22 rfl hb2.blk rfl) ?_
     first | refine vq (Val.rdlen sl22 (by assumption) rfl) ?_ | refine vq (Val.sllen Try.underlying22 rfl) ?_ | refine vq (Val.olen sl22 (by assumption) rfl) ?_ | refine vq (Val.rdlenC sl22 (by assumption) rfl) ?_
     refine vq (Val.addI rfl rfl side side) <| vq (Val.neq rfl rfl) <| cnil ?_
     refine WC.cond rfl (fun hc6 => ?_) (fun hc6 => ?_)
     ·try simp only [tstS] at hc6
      refine WC.exit rfl ?_
      first
      | (exfalso; omega)
      | (have e : framesS s = (lr, first, endF pre) := by rw [hfr]; exact framesG_stop2 hT (fun e => by rw [e] at hlen; simp at hlen; omega) (by omega)); exact ⟨_, hA, vl, css, lr, first, endF pre, hO, hb2, by rw [hlen]; exact ho, he, hb3, hb4, e⟩
     ·try simp only [tstS] at hc6
      refine cskip ?_
      refine WC.mono (N := (fun _ w9 => ∃ d', Acc c7 A2 [102, 103, 104, 105, 106, 7] d' w9 ∧ ∃ f9, FrI w s (pre ++ [([I r.kind, I r.id, St r.name, St r.digest, ul, us], r, k, z)]) d' w9 b2 b3 b4 f9)) ?_ ?_
      ·refine WC.regionT (Kp c7 w9 [7, 102]) [2, 1, 2, 2, 1, 0, 1, 0, 2, 3] (.quiet 1 (.quiet 4 (.quiet 5 (.quiet 6 (.quiet 7 (.two 0 (.one 2 (.one 3 (.one 8 (.one 9 .nil)))) 2 (.one 0 (.one 3 (.one 8 (.one 9 .nil)))))))))) mixed (by kernel_rfl) ?_
       have hM10 := Mv.drew c7 w9 []
       have hCw := Mv.drew c7 w9 [7, 102]
       generalize w9.drew = w10 at hM10 hCw ⊢
       have hb20 := hb2
       have hb30 := hb3
       have hb40 := hb4
       have hb50 := hb5
       have hb60 := hb6
       replace hO := hO.mv hM10; replace hb2 := hb2.mv hM10; replace ho := ho.mv hM10; replace he := he.mv hM10; replace hb3 := hb3.mv hM10; replace hb4 := hb4.mv hM10; replace hi1 := hi1.mv hM10; replace hi2 := hi2.mv hM10; replace hb5 := hb5.mv hM10; replace hb6 := hb6.mv hM10; replace hA := hA.mv hM10
       refine WT.valC rfl rfl rfl hCw.kp (fun W hW => Val.loadBN agg31 rfl (hb50.kp hW rfl).blk rfl) rfl ?_
       refine WT.valC rfl rfl rfl hCw.kp (fun W hW => Val.loadB scl3 rfl (hb40.kp hW rfl).blk rfl) rfl ?_
       refine WT.val rfl rfl rfl (fun _ => Val.fieldAddr fld86_1 rfl) rfl ?_
       refine WT.valC rfl rfl rfl hCw.kp (fun W hW => Val.loadB scl3 rfl (hb60.kp hW rfl).blk rfl) rfl ?_
       refine WT.val rfl rfl rfl (fun _ => Val.addI rfl rfl side side) rfl ?_
       refine WT.two ?_ ?_
       ·refine WS.eff rfl rfl rfl (Eff.val (Val.loadB scl22 rfl hb2.blk rfl)) rfl ?_
        rintro _ _ ⟨rfl, rfl⟩
        refine ⟨id, ?_⟩
        refine WT.one ?_
        refine WS.eff rfl rfl rfl (Eff.build1C c7 125 sl22 rfl rfl rfl rfl rfl) rfl ?_
        rintro _ w11 ⟨b25, c11, rfl, hM11, hb25⟩
        refine ⟨fun hC => hC.step hCw hM11 rfl, ?_⟩
        replace hCw := hCw.tr hM11 rfl
        replace hO := hO.mv hM11; replace hb2 := hb2.mv hM11; replace ho := ho.mv hM11; replace he := he.mv hM11; replace hb3 := hb3.mv hM11; replace hb4 := hb4.mv hM11; replace hi1 := hi1.mv hM11; replace hi2 := hi2.mv hM11; replace hb5 := hb5.mv hM11; replace hb6 := hb6.mv hM11; replace hA := hA.mv hM11
        refine WT.one ?_
        refine WS.eff rfl rfl rfl (Eff.appendC sl22 rfl rfl ho (Src.cellsAt Try.underlying22 hb25.blk.cellsAt rfl ones) mxl oms) rfl ?_
        rintro v26 w12 ⟨c12, hM12, hOq⟩
        refine ⟨fun hC => hC.step hCw hM12 rfl, ?_⟩
        replace hCw := hCw.tr hM12 rfl
        clear hb25
        replace hO := hO.mv hM12; replace hb2 := hb2.mv hM12; replace he := he.mv hM12; replace hb3 := hb3.mv hM12; replace hb4 := hb4.mv hM12; replace hi1 := hi1.mv hM12; replace hi2 := hi2.mv hM12; replace hb5 := hb5.mv hM12; replace hb6 := hb6.mv hM12; replace hA := hA.mv hM12
        replace ho := hOq
        have ox2 := ho.oneC; have cx2 := ho.cellsV
        refine WT.one ?_
        refine WS.eff_ rfl rfl rfl (Eff.storeC scl22 rfl rfl ra ra hb2 rfl) ?_
        rintro _ w13 ⟨hS, hM13⟩
        refine ⟨fun hC => hC.step hCw hM13 rfl, ?_⟩
        replace hCw := hCw.tr hM13 rfl
        replace hO := hO.mv hM13; replace ho := ho.mv hM13; replace he := he.mv hM13; replace hb3 := hb3.mv hM13; replace hb4 := hb4.mv hM13; replace hi1 := hi1.mv hM13; replace hi2 := hi2.mv hM13; replace hb5 := hb5.mv hM13; replace hb6 := hb6.mv hM13; replace hA := hA.mv hM13
        replace hb2 := hS
        refine WT.one ?_
        refine WS.wild rfl rfl rfl (Eff.storeC scl3 rfl rfl ra ra hb4 rfl) ?_
        rintro _ w14 ⟨hS, hM14⟩
        try replace hCw := hCw.tr hM14 rfl
        replace hO := hO.mv hM14; replace hb2 := hb2.mv hM14; replace ho := ho.mv hM14; replace he := he.mv hM14; replace hb3 := hb3.mv hM14; replace hi1 := hi1.mv hM14; replace hi2 := hi2.mv hM14; replace hb5 := hb5.mv hM14; replace hb6 := hb6.mv hM14; replace hA := hA.mv hM14
        replace hb4 := hS
        refine WT.nil ?_
        have hcf : (css ++ [[I r.kind, I r.id, St r.name, St r.digest, ul, us]]).flatten = css.flatten ++ [I r.kind, I r.id, St r.name, St r.digest, ul, us] := by simp
        have hll : ((pre ++ [([I r.kind, I r.id, St r.name, St r.digest, ul, us], r, k, z)]) : List FrX).length = pre.length + 1 := by simp
        have hml : ((pre ++ [([I r.kind, I r.id, St r.name, St r.digest, ul, us], r, k, z)]) : List FrX).map (fun x => x.2.1) = lr ++ [r] := by simp [hlr]
        have hlk : lr = [] ∨ k = first + lr.length := by
          by_cases h0 : lr.length = 0
          · exact .inl (List.eq_nil_of_length_eq_zero h0)
          · right; omega
        have hgo := framesG_go (f := s.length - endF pre) (first := first) (bytes := endF pre) hT hlk
        have hfu := framesG_fuel (s.length - endF pre) (s.length - (endF pre + z) + 1) ((s.drop (endF pre)).drop z) (lr ++ [r]) (if lr = [] then k else first) (endF pre + z) (by rw [List.length_drop, List.length_drop]; omega) (by rw [List.length_drop, List.length_drop]; omega)
        rw [hgo, hfu, List.drop_drop] at hfr
        have he2 := he.snoc hi1 hi2 hi3
        refine ⟨_, hA, (if lr = [] then k else first), hO, ⟨_, css ++ [[I r.kind, I r.id, St r.name, St r.digest, ul, us]], hb2, by rw [hcf, hll]; exact ho, by rw [hml]; exact he2⟩, ?_, by rw [endF_snoc, Int.natCast_add]; exact hb4, by split <;> omega, by rw [endF_snoc]; omega, by rw [endF_snoc, hll]; omega, by rw [endF_snoc, hml]; exact hfr⟩
        first
        | (rw [if_pos (List.eq_nil_of_length_eq_zero (by omega))]; exact hb3)
        | (rw [if_neg (fun e => by rw [e] at hlen; simp at hlen; omega)]; exact hb3)
       ·refine WS.eff rfl rfl rfl (Eff.build1C c7 125 sl22 rfl rfl rfl rfl rfl) rfl ?_
        rintro _ w15 ⟨b25, c15, rfl, hM15, hb25⟩
        refine ⟨fun hC => hC.step hCw hM15 rfl, ?_⟩
        replace hCw := hCw.tr hM15 rfl
        replace hO := hO.mv hM15; replace hb2 := hb2.mv hM15; replace ho := ho.mv hM15; replace he := he.mv hM15; replace hb3 := hb3.mv hM15; replace hb4 := hb4.mv hM15; replace hi1 := hi1.mv hM15; replace hi2 := hi2.mv hM15; replace hb5 := hb5.mv hM15; replace hb6 := hb6.mv hM15; replace hA := hA.mv hM15
        refine WT.one ?_
        refine WS.eff rfl rfl rfl (Eff.val (Val.loadB scl22 rfl hb2.blk rfl)) rfl ?_
        rintro _ _ ⟨rfl, rfl⟩
        refine ⟨id, ?_⟩
        refine WT.one ?_
        refine WS.eff rfl rfl rfl (Eff.appendC sl22 rfl rfl ho (Src.cellsAt Try.underlying22 hb25.blk.cellsAt rfl ones) mxl oms) rfl ?_
        rintro v26 w16 ⟨c16, hM16, hOq⟩
        refine ⟨fun hC => hC.step hCw hM16 rfl, ?_⟩
        replace hCw := hCw.tr hM16 rfl
        clear hb25
        replace hO := hO.mv hM16; replace hb2 := hb2.mv hM16; replace he := he.mv hM16; replace hb3 := hb3.mv hM16; replace hb4 := hb4.mv hM16; replace hi1 := hi1.mv hM16; replace hi2 := hi2.mv hM16; replace hb5 := hb5.mv hM16; replace hb6 := hb6.mv hM16; replace hA := hA.mv hM16
        replace ho := hOq
        have ox2 := ho.oneC; have cx2 := ho.cellsV
        refine WT.one ?_
        refine WS.eff_ rfl rfl rfl (Eff.storeC scl22 rfl rfl ra ra hb2 rfl) ?_
        rintro _ w17 ⟨hS, hM17⟩
        refine ⟨fun hC => hC.step hCw hM17 rfl, ?_⟩
        replace hCw := hCw.tr hM17 rfl
        replace hO := hO.mv hM17; replace ho := ho.mv hM17; replace he := he.mv hM17; replace hb3 := hb3.mv hM17; replace hb4 := hb4.mv hM17; replace hi1 := hi1.mv hM17; replace hi2 := hi2.mv hM17; replace hb5 := hb5.mv hM17; replace hb6 := hb6.mv hM17; replace hA := hA.mv hM17
        replace hb2 := hS
        refine WT.one ?_
        refine WS.wild rfl rfl rfl (Eff.storeC scl3 rfl rfl ra ra hb4 rfl) ?_
        rintro _ w18 ⟨hS, hM18⟩
        try replace hCw := hCw.tr hM18 rfl
        replace hO := hO.mv hM18; replace hb2 := hb2.mv hM18; replace ho := ho.mv hM18; replace he := he.mv hM18; replace hb3 := hb3.mv hM18; replace hi1 := hi1.mv hM18; replace hi2 := hi2.mv hM18; replace hb5 := hb5.mv hM18; replace hb6 := hb6.mv hM18; replace hA := hA.mv hM18
        replace hb4 := hS
        refine WT.nil ?_
        have hcf : (css ++ [[I r.kind, I r.id, St r.name, St r.digest, ul, us]]).flatten = css.flatten ++ [I r.kind, I r.id, St r.name, St r.digest, ul, us] := by simp
        have hll : ((pre ++ [([I r.kind, I r.id, St r.name, St r.digest, ul, us], r, k, z)]) : List FrX).length = pre.length + 1 := by simp
        have hml : ((pre ++ [([I r.kind, I r.id, St r.name, St r.digest, ul, us], r, k, z)]) : List FrX).map (fun x => x.2.1) = lr ++ [r] := by simp [hlr]
        have hlk : lr = [] ∨ k = first + lr.length := by
          by_cases h0 : lr.length = 0
          · exact .inl (List.eq_nil_of_length_eq_zero h0)
          · right; omega
        have hgo := framesG_go (f := s.length - endF pre) (first := first) (bytes := endF pre) hT hlk
        have hfu := framesG_fuel (s.length - endF pre) (s.length - (endF pre + z) + 1) ((s.drop (endF pre)).drop z) (lr ++ [r]) (if lr = [] then k else first) (endF pre + z) (by rw [List.length_drop, List.length_drop]; omega) (by rw [List.length_drop, List.length_drop]; omega)
        rw [hgo, hfu, List.drop_drop] at hfr
        have he2 := he.snoc hi1 hi2 hi3
        refine ⟨_, hA, (if lr = [] then k else first), hO, ⟨_, css ++ [[I r.kind, I r.id, St r.name, St r.digest, ul, us]], hb2, by rw [hcf, hll]; exact ho, by rw [hml]; exact he2⟩, ?_, by rw [endF_snoc, Int.natCast_add]; exact hb4, by split <;> omega, by rw [endF_snoc]; omega, by rw [endF_snoc, hll]; omega, by rw [endF_snoc, hml]; exact hfr⟩
        first
        | (rw [if_pos (List.eq_nil_of_length_eq_zero (by omega))]; exact hb3)
        | (rw [if_neg (fun e => by rw [e] at hlen; simp at hlen; omega)]; exact hb3)
      ·skip
       rintro e9 w9 h9
       exact h9
    ·try simp only [tstS] at hc4
     refine cskip <| cseq <| cseq <| cg <| vq (Val.fieldAddr fld86_0 rfl) <| vq (Val.loadB scl3 rfl hb6.blk rfl) <| vq (Val.loadB scl3 rfl hb3.blk rfl) <| vq (Val.loadB scl22 rfl hb2.blk rfl) ?_
     first | refine vq (Val.rdlen sl22 (by assumption) rfl) ?_ | refine vq (Val.sllen Try.underlying22 rfl) ?_ | refine vq (Val.olen sl22 (by assumption) rfl) ?_ | refine vq (Val.rdlenC sl22 (by assumption) rfl) ?_
     refine vq (Val.addI rfl rfl side side) <| vq (Val.neq rfl rfl) <| cnil ?_
     refine WC.cond rfl (fun hc6 => ?_) (fun hc6 => ?_)
     ·try simp only [tstS] at hc6
      refine WC.exit rfl ?_
      first
      | (exfalso; omega)
      | (have e : framesS s = (lr, first, endF pre) := by rw [hfr]; exact framesG_stop2 hT (fun e => by rw [e] at hlen; simp at hlen; omega) (by omega)); exact ⟨_, hA, vl, css, lr, first, endF pre, hO, hb2, by rw [hlen]; exact ho, he, hb3, hb4, e⟩
     ·try simp only [tstS] at hc6
      refine cskip ?_
      refine WC.mono (N := (fun _ w9 => ∃ d', Acc c7 A2 [102, 103, 104, 105, 106, 7] d' w9 ∧ ∃ f9, FrI w s (pre ++ [([I r.kind, I r.id, St r.name, St r.digest, ul, us], r, k, z)]) d' w9 b2 b3 b4 f9)) ?_ ?_
      ·refine WC.regionT (Kp c7 A2 [7, 102]) [2, 1, 2, 2, 1, 0, 1, 0, 2, 3] (.quiet 1 (.quiet 4 (.quiet 5 (.quiet 6 (.quiet 7 (.two 0 (.one 2 (.one 3 (.one 8 (.one 9 .nil)))) 2 (.one 0 (.one 3 (.one 8 (.one 9 .nil)))))))))) mixed (by kernel_rfl) ?_
       have hM19 := Mv.drew c7 A2 []
       have hCw := Mv.drew c7 A2 [7, 102]
       generalize A2.drew = w19 at hM19 hCw ⊢
       have hb20 := hb2
       have hb30 := hb3
       have hb40 := hb4
       have hb50 := hb5
       have hb60 := hb6
       replace hO := hO.mv hM19; replace hb2 := hb2.mv hM19; replace ho := ho.mv hM19; replace he := he.mv hM19; replace hb3 := hb3.mv hM19; replace hb4 := hb4.mv hM19; replace hi1 := hi1.mv hM19; replace hi2 := hi2.mv hM19; replace hb5 := hb5.mv hM19; replace hb6 := hb6.mv hM19; replace hA := hA.mv hM19
       refine WT.valC rfl rfl rfl hCw.kp (fun W hW => Val.loadBN agg31 rfl (hb50.kp hW rfl).blk rfl) rfl ?_
       refine WT.valC rfl rfl rfl hCw.kp (fun W hW => Val.loadB scl3 rfl (hb40.kp hW rfl).blk rfl) rfl ?_
       refine WT.val rfl rfl rfl (fun _ => Val.fieldAddr fld86_1 rfl) rfl ?_
       refine WT.valC rfl rfl rfl hCw.kp (fun W hW => Val.loadB scl3 rfl (hb60.kp hW rfl).blk rfl) rfl ?_
       refine WT.val rfl rfl rfl (fun _ => Val.addI rfl rfl side side) rfl ?_
       refine WT.two ?_ ?_
       ·refine WS.eff rfl rfl rfl (Eff.val (Val.loadB scl22 rfl hb2.blk rfl)) rfl ?_
        rintro _ _ ⟨rfl, rfl⟩
        refine ⟨id, ?_⟩
        refine WT.one ?_
        refine WS.eff rfl rfl rfl (Eff.build1C c7 125 sl22 rfl rfl rfl rfl rfl) rfl ?_
        rintro _ w20 ⟨b25, c20, rfl, hM20, hb25⟩
        refine ⟨fun hC => hC.step hCw hM20 rfl, ?_⟩
        replace hCw := hCw.tr hM20 rfl
        replace hO := hO.mv hM20; replace hb2 := hb2.mv hM20; replace ho := ho.mv hM20; replace he := he.mv hM20; replace hb3 := hb3.mv hM20; replace hb4 := hb4.mv hM20; replace hi1 := hi1.mv hM20; replace hi2 := hi2.mv hM20; replace hb5 := hb5.mv hM20; replace hb6 := hb6.mv hM20; replace hA := hA.mv hM20
        refine WT.one ?_
        refine WS.eff rfl rfl rfl (Eff.appendC sl22 rfl rfl ho (Src.cellsAt Try.underlying22 hb25.blk.cellsAt rfl ones) mxl oms) rfl ?_
        rintro v26 w21 ⟨c21, hM21, hOq⟩
        refine ⟨fun hC => hC.step hCw hM21 rfl, ?_⟩
        replace hCw := hCw.tr hM21 rfl
        clear hb25
        replace hO := hO.mv hM21; replace hb2 := hb2.mv hM21; replace he := he.mv hM21; replace hb3 := hb3.mv hM21; replace hb4 := hb4.mv hM21; replace hi1 := hi1.mv hM21; replace hi2 := hi2.mv hM21; replace hb5 := hb5.mv hM21; replace hb6 := hb6.mv hM21; replace hA := hA.mv hM21
        replace ho := hOq
        have ox2 := ho.oneC; have cx2 := ho.cellsV
        refine WT.one ?_
        refine WS.eff_ rfl rfl rfl (Eff.storeC scl22 rfl rfl ra ra hb2 rfl) ?_
        rintro _ w22 ⟨hS, hM22⟩
        refine ⟨fun hC => hC.step hCw hM22 rfl, ?_⟩
        replace hCw := hCw.tr hM22 rfl
        replace hO := hO.mv hM22; replace ho := ho.mv hM22; replace he := he.mv hM22; replace hb3 := hb3.mv hM22; replace hb4 := hb4.mv hM22; replace hi1 := hi1.mv hM22; replace hi2 := hi2.mv hM22; replace hb5 := hb5.mv hM22; replace hb6 := hb6.mv hM22; replace hA := hA.mv hM22
        replace hb2 := hS
        refine WT.one ?_
        refine WS.wild rfl rfl rfl (Eff.storeC scl3 rfl rfl ra ra hb4 rfl) ?_
        rintro _ w23 ⟨hS, hM23⟩
        try replace hCw := hCw.tr hM23 rfl
        replace hO := hO.mv hM23; replace hb2 := hb2.mv hM23; replace ho := ho.mv hM23; replace he := he.mv hM23; replace hb3 := hb3.mv hM23; replace hi1 := hi1.mv hM23; replace hi2 := hi2.mv hM23; replace hb5 := hb5.mv hM23; replace hb6 := hb6.mv hM23; replace hA := hA.mv hM23
        replace hb4 := hS
        refine WT.nil ?_
        have hcf : (css ++ [[I r.kind, I r.id, St r.name, St r.digest, ul, us]]).flatten = css.flatten ++ [I r.kind, I r.id, St r.name, St r.digest, ul, us] := by simp
        have hll : ((pre ++ [([I r.kind, I r.id, St r.name, St r.digest, ul, us], r, k, z)]) : List FrX).length = pre.length + 1 := by simp
        have hml : ((pre ++ [([I r.kind, I r.id, St r.name, St r.digest, ul, us], r, k, z)]) : List FrX).map (fun x => x.2.1) = lr ++ [r] := by simp [hlr]
        have hlk : lr = [] ∨ k = first + lr.length := by
          by_cases h0 : lr.length = 0
          · exact .inl (List.eq_nil_of_length_eq_zero h0)
          · right; omega
        have hgo := framesG_go (f := s.length - endF pre) (first := first) (bytes := endF pre) hT hlk
        have hfu := framesG_fuel (s.length - endF pre) (s.length - (endF pre + z) + 1) ((s.drop (endF pre)).drop z) (lr ++ [r]) (if lr = [] then k else first) (endF pre + z) (by rw [List.length_drop, List.length_drop]; omega) (by rw [List.length_drop, List.length_drop]; omega)
        rw [hgo, hfu, List.drop_drop] at hfr
        have he2 := he.snoc hi1 hi2 hi3
        refine ⟨_, hA, (if lr = [] then k else first), hO, ⟨_, css ++ [[I r.kind, I r.id, St r.name, St r.digest, ul, us]], hb2, by rw [hcf, hll]; exact ho, by rw [hml]; exact he2⟩, ?_, by rw [endF_snoc, Int.natCast_add]; exact hb4, by split <;> omega, by rw [endF_snoc]; omega, by rw [endF_snoc, hll]; omega, by rw [endF_snoc, hml]; exact hfr⟩
        first
        | (rw [if_pos (List.eq_nil_of_length_eq_zero (by omega))]; exact hb3)
        | (rw [if_neg (fun e => by rw [e] at hlen; simp at hlen; omega)]; exact hb3)
       ·refine WS.eff rfl rfl rfl (Eff.build1C c7 125 sl22 rfl rfl rfl rfl rfl) rfl ?_
        rintro _ w24 ⟨b25, c24, rfl, hM24, hb25⟩
        refine ⟨fun hC => hC.step hCw hM24 rfl, ?_⟩
        replace hCw := hCw.tr hM24 rfl
        replace hO := hO.mv hM24; replace hb2 := hb2.mv hM24; replace ho := ho.mv hM24; replace he := he.mv hM24; replace hb3 := hb3.mv hM24; replace hb4 := hb4.mv hM24; replace hi1 := hi1.mv hM24; replace hi2 := hi2.mv hM24; replace hb5 := hb5.mv hM24; replace hb6 := hb6.mv hM24; replace hA := hA.mv hM24
        refine WT.one ?_
        refine WS.eff rfl rfl rfl (Eff.val (Val.loadB scl22 rfl hb2.blk rfl)) rfl ?_
        rintro _ _ ⟨rfl, rfl⟩
        refine ⟨id, ?_⟩
        refine WT.one ?_
        refine WS.eff rfl rfl rfl (Eff.appendC sl22 rfl rfl ho (Src.cellsAt Try.underlying22 hb25.blk.cellsAt rfl ones) mxl oms) rfl ?_
        rintro v26 w25 ⟨c25, hM25, hOq⟩
        refine ⟨fun hC => hC.step hCw hM25 rfl, ?_⟩
        replace hCw := hCw.tr hM25 rfl
        clear hb25
        replace hO := hO.mv hM25; replace hb2 := hb2.mv hM25; replace he := he.mv hM25; replace hb3 := hb3.mv hM25; replace hb4 := hb4.mv hM25; replace hi1 := hi1.mv hM25; replace hi2 := hi2.mv hM25; replace hb5 := hb5.mv hM25; replace hb6 := hb6.mv hM25; replace hA := hA.mv hM25
        replace ho := hOq
        have ox2 := ho.oneC; have cx2 := ho.cellsV
        refine WT.one ?_
        refine WS.eff_ rfl rfl rfl (Eff.storeC scl22 rfl rfl ra ra hb2 rfl) ?_
        rintro _ w26 ⟨hS, hM26⟩
        refine ⟨fun hC => hC.step hCw hM26 rfl, ?_⟩
        replace hCw := hCw.tr hM26 rfl
        replace hO := hO.mv hM26; replace ho := ho.mv hM26; replace he := he.mv hM26; replace hb3 := hb3.mv hM26; replace hb4 := hb4.mv hM26; replace hi1 := hi1.mv hM26; replace hi2 := hi2.mv hM26; replace hb5 := hb5.mv hM26; replace hb6 := hb6.mv hM26; replace hA := hA.mv hM26
        replace hb2 := hS
        refine WT.one ?_
        refine WS.wild rfl rfl rfl (Eff.storeC scl3 rfl rfl ra ra hb4 rfl) ?_
        rintro _ w27 ⟨hS, hM27⟩
        try replace hCw := hCw.tr hM27 rfl
        replace hO := hO.mv hM27; replace hb2 := hb2.mv hM27; replace ho := ho.mv hM27; replace he := he.mv hM27; replace hb3 := hb3.mv hM27; replace hi1 := hi1.mv hM27; replace hi2 := hi2.mv hM27; replace hb5 := hb5.mv hM27; replace hb6 := hb6.mv hM27; replace hA := hA.mv hM27
        replace hb4 := hS
        refine WT.nil ?_
        have hcf : (css ++ [[I r.kind, I r.id, St r.name, St r.digest, ul, us]]).flatten = css.flatten ++ [I r.kind, I r.id, St r.name, St r.digest, ul, us] := by simp
        have hll : ((pre ++ [([I r.kind, I r.id, St r.name, St r.digest, ul, us], r, k, z)]) : List FrX).length = pre.length + 1 := by simp
        have hml : ((pre ++ [([I r.kind, I r.id, St r.name, St r.digest, ul, us], r, k, z)]) : List FrX).map (fun x => x.2.1) = lr ++ [r] := by simp [hlr]
        have hlk : lr = [] ∨ k = first + lr.length := by
          by_cases h0 : lr.length = 0
          · exact .inl (List.eq_nil_of_length_eq_zero h0)
          · right; omega
        have hgo := framesG_go (f := s.length - endF pre) (first := first) (bytes := endF pre) hT hlk
        have hfu := framesG_fuel (s.length - endF pre) (s.length - (endF pre + z) + 1) ((s.drop (endF pre)).drop z) (lr ++ [r]) (if lr = [] then k else first) (endF pre + z) (by rw [List.length_drop, List.length_drop]; omega) (by rw [List.length_drop, List.length_drop]; omega)
        rw [hgo, hfu, List.drop_drop] at hfr
        have he2 := he.snoc hi1 hi2 hi3
        refine ⟨_, hA, (if lr = [] then k else first), hO, ⟨_, css ++ [[I r.kind, I r.id, St r.name, St r.digest, ul, us]], hb2, by rw [hcf, hll]; exact ho, by rw [hml]; exact he2⟩, ?_, by rw [endF_snoc, Int.natCast_add]; exact hb4, by split <;> omega, by rw [endF_snoc]; omega, by rw [endF_snoc, hll]; omega, by rw [endF_snoc, hml]; exact hfr⟩
        first
        | (rw [if_pos (List.eq_nil_of_length_eq_zero (by omega))]; exact hb3)
        | (rw [if_neg (fun e => by rw [e] at hlen; simp at hlen; omega)]; exact hb3)
      ·skip
       rintro e9 w9 h9
       exact h9
   ·clear hO hb2 hb3 hb4 hp1 hB1
    rintro L D d B hF ⟨first, hO, ⟨vl, css, hb2, ho, he⟩, hb3, hb4, hf, hp, hl, hfr⟩ hD
    exact ⟨d, D, subs, ⟨vl, css, _, first, endF L, hO, hb2, by rw [List.length_map]; exact ho, he, hb3, hb4, by rw [hfr]; exact framesG_stop (.inl hF)⟩, hD⟩
   ·intro p hp D pre d B h hD
    simp only [List.mem_singleton] at hp; subst hp
    exact ⟨_, rfl, d, D, subs, h, hD⟩
   ·exact fun _ _ _ _ h => h.elim
  ·skip
   rintro e9 w9 ⟨c9, D, hsub, ⟨vl, css, l, first, bytes, hO, hb2, ho, he, hb3, hb4, e⟩, hD⟩
   refine WC.sub hsub ?_
   clear hsub e9
   have ox := ho.oneC; have cx := ho.cellsV
   refine cseq ?_
   have hM10 := Mv.drew c9 w9 []
   refine WC.regionD (fun W => Blk W b2 [vl] 22 ∧ Blk W b3 [I first] 3 ∧ Blk W b4 [I bytes] 3) [1, 1, 1, 2, 2, 3] [0, 1, 2, 3, 4, 5] mixed (by kernel_rfl) ?_
   replace hO := hO.mv hM10; replace hb2 := hb2.mv hM10; replace ho := ho.mv hM10; replace he := he.mv hM10; replace hb3 := hb3.mv hM10; replace hb4 := hb4.mv hM10; replace hD := hD.mv hM10
   generalize w9.drew = w10 at hM10 hO hb2 ho he hb3 hb4 hD ⊢
   refine vc rfl ⟨hb2.blk, hb3.blk, hb4.blk⟩ (fun W hW => Val.loadB scl22 rfl hW.1 rfl) ?_
   refine vc rfl ⟨hb2.blk, hb3.blk, hb4.blk⟩ (fun W hW => Val.loadB scl3 rfl hW.2.1 rfl) ?_
   refine vc rfl ⟨hb2.blk, hb3.blk, hb4.blk⟩ (fun W hW => Val.loadB scl3 rfl hW.2.2 rfl) ?_
   refine WD.eff_ rfl rfl rfl (Eff.storeC scl22 rfl rfl ra ra hb2 rfl) ?_
   rintro _ w11 ⟨hS, hM11⟩
   replace hO := hO.mv hM11; replace ho := ho.mv hM11; replace he := he.mv hM11; replace hb3 := hb3.mv hM11; replace hb4 := hb4.mv hM11; replace hD := hD.mv hM11
   replace hb2 : BlkC _ _ 102 b2 [vl] 22 := hS
   refine ⟨fun _ => ⟨hb2.blk, hb3.blk, hb4.blk⟩, ?_⟩
   refine WD.eff_ rfl rfl rfl (Eff.storeC scl3 rfl rfl ra ra hb3 rfl) ?_
   rintro _ w12 ⟨hS2, hM12⟩
   replace hO := hO.mv hM12; replace ho := ho.mv hM12; replace he := he.mv hM12; replace hb2 := hb2.mv hM12; replace hb4 := hb4.mv hM12; replace hD := hD.mv hM12
   replace hb3 : BlkC _ _ 103 b3 [I first] 3 := hS2
   refine ⟨fun _ => ⟨hb2.blk, hb3.blk, hb4.blk⟩, ?_⟩
   refine WD.wild rfl rfl rfl (Eff.storeC scl3 rfl rfl ra ra hb4 rfl) ?_
   rintro _ w13 ⟨hS3, hM13⟩
   replace hO := hO.mv hM13; replace ho := ho.mv hM13; replace he := he.mv hM13; replace hb2 := hb2.mv hM13; replace hb3 := hb3.mv hM13; replace hD := hD.mv hM13
   replace hb4 : BlkC _ _ 104 b4 [I bytes] 3 := hS3
   refine WD.nil ?_
   obtain ⟨hTk, hMTk⟩ := hD.take
   replace hO := hO.mv hMTk; replace hb2 := hb2.mv hMTk; replace ho := ho.mv hMTk; replace he := he.mv hMTk; replace hb3 := hb3.mv hMTk; replace hb4 := hb4.mv hMTk
   refine WC.retMR3 rfl rfl hTk (RVal.cell1 scl22 rfl hb2.blk rfl) (RVal.cell1 scl3 rfl hb3.blk rfl) (RVal.cell1 scl3 rfl hb4.blk rfl) ?_
   rw [e]
   exact ⟨hO.below, _, vl, css, rfl, ho, he, hO⟩
end Go.Proofs.Ythlfolpcmcejkaa
