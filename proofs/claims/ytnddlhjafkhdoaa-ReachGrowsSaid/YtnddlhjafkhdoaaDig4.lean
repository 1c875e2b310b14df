/- Digests: a block, as the program has it. No condition. -/
import Derived.Test.YtnddlhjafkhdoaaDig3
set_option linter.unusedSimpArgs false
set_option linter.unusedVariables false
set_option maxRecDepth 100000
namespace Silo
open Go Go.Eng
def gN (l : List Nat) (j : Nat) : Nat := l[j]?.getD 0
theorem row_len (r : Nat) (h : r < 10) : ∃ l, rowsL[r]? = some l ∧ l.length = 16 ∧ ∀ j, gN l j < 16 := by
  obtain ⟨a0, a1, a2, a3, a4, a5, a6, a7, a8, a9, a10, a11, a12, a13, a14, a15, hr, q0, q1, q2, q3, q4, q5, q6, q7, q8, q9, q10, q11, q12, q13, q14, q15⟩ := row_form r h
  refine ⟨_, hr, rfl, fun j => ?_⟩
  have : j = 0 ∨ j = 1 ∨ j = 2 ∨ j = 3 ∨ j = 4 ∨ j = 5 ∨ j = 6 ∨ j = 7 ∨ j = 8 ∨ j = 9 ∨ j = 10 ∨ j = 11 ∨ j = 12 ∨ j = 13 ∨ j = 14 ∨ j = 15 ∨ 16 ≤ j := by omega
  rcases this with rfl | rfl | rfl | rfl | rfl | rfl | rfl | rfl | rfl | rfl | rfl | rfl | rfl | rfl | rfl | rfl | hj <;> first | assumption | skip
  rw [gN, List.getElem?_eq_none (by simpa using hj)]; decide
theorem quart_form (i : Nat) (h : i < 8) : ∃ q0 q1 q2 q3 : Nat, quartL[i]? = some [q0, q1, q2, q3] ∧ q0 < 16 ∧ q1 < 16 ∧ q2 < 16 ∧ q3 < 16 := by
  have : i = 0 ∨ i = 1 ∨ i = 2 ∨ i = 3 ∨ i = 4 ∨ i = 5 ∨ i = 6 ∨ i = 7 := by omega
  rcases this with rfl | rfl | rfl | rfl | rfl | rfl | rfl | rfl <;> exact ⟨_, _, _, _, rfl, by decide⟩
def ik (m : List Int) (r : Nat) (v : List Int) (i : Nat) : List Int := (List.range i).foldl (roundS m r) v
theorem ik_succ (m : List Int) (r : Nat) (v : List Int) (i : Nat) : ik m r v (i + 1) = roundS m r (ik m r v i) i := fold_succ _ _ _
theorem ik_length (m : List Int) (r : Nat) (v : List Int) : ∀ i, (ik m r v i).length = v.length
  | 0 => rfl
  | i + 1 => by rw [ik_succ, roundS, mixS_length, ik_length m r v i]
theorem round_eq {m v : List Int} {r i : Nat} {l : List Nat} {q0 q1 q2 q3 : Nat} (hr : rowsL[r]? = some l) (hq : quartL[i]? = some [q0, q1, q2, q3]) : roundS m r v i = mixS v q0 q1 q2 q3 (gW m (gN l (2 * i))) (gW m (gN l (2 * i + 1))) := by
  simp only [roundS, g2, hr, hq, Option.getD_some]; rfl
theorem copy1 {h : List Int} (hl : h.length = 8) : (((List.replicate 16 0).map W32 ++ []).take 0 ++ (h.map W32 ++ []) ++ ((List.replicate 16 0).map W32 ++ []).drop (0 + (h.map W32 ++ []).length)) = (h ++ List.replicate 8 0).map W32 ++ [] := by
  obtain ⟨a, b, c, d, e, f, g, i, rfl⟩ := eight hl
  rfl
theorem copy2 {h : List Int} (hl : h.length = 8) : (((h ++ List.replicate 8 0).map W32 ++ []).take (0 + 8 * 1) ++ (beginsL.map W32 ++ []) ++ ((h ++ List.replicate 8 0).map W32 ++ []).drop (0 + 8 * 1 + (beginsL.map W32 ++ []).length)) = (h ++ beginsL).map W32 ++ [] := by
  obtain ⟨a, b, c, d, e, f, g, i, rfl⟩ := eight hl
  rfl
theorem one_words (l : List Int) : ∀ v ∈ l.map W32 ++ [], v.oneCell' = true := fun v hv => by
  rw [List.append_nil] at hv
  obtain ⟨n, _, rfl⟩ := List.mem_map.1 hv
  rfl
def hcp (h v : List Int) (k : Nat) : List Int := (List.range k).foldl (fun l i => l.set i (x32 (gW l i) (x32 (gW v i) (gW v (i + 8))))) h
theorem hcp_succ (h v : List Int) (k : Nat) : hcp h v (k + 1) = (hcp h v k).set k (x32 (gW (hcp h v k) k) (x32 (gW v k) (gW v (k + 8)))) := fold_succ _ _ _
theorem hcp_eq (h v : List Int) (k : Nat) : hcp h v k = hck h v k := by unfold hcp hck; simp only [x32_assoc]
end Silo
namespace Go.Proofs.Ytnddlhjafkhdoaa
open Go Go.Eng Go.RowKit Silo TryT
theorem index_row {env : Env} {w : World} {x y : Operand} {ty : TypeId} {r : Nat} {l : List Nat} (hx : evO env x = some (.agg rowsV.toArray)) (hy : evO env y = some (I (r : Int))) (h : r < 10) (hr : rowsL[r]? = some l) :
    Val Try.prog env w (.index 158 x y) ty (.agg (l.map fun n => I ((n : Nat) : Int)).toArray) := by
  have h1 := Val.indexAggN (ty := ty) (w := w) arr158 agg157 hx hy (by omega) (by omega) (by rw [show rowsV.length = 160 from rfl]; simp; omega)
  have h2 := rows_part r h l hr
  rw [Nat.zero_add] at h2
  rwa [Int.toNat_natCast, h2] at h1
theorem index_quart {env : Env} {w : World} {x y : Operand} {ty : TypeId} {i : Nat} {l : List Nat} (hx : evO env x = some (.agg quartV.toArray)) (hy : evO env y = some (I (i : Int))) (h : i < 8) (hr : quartL[i]? = some l) :
    Val Try.prog env w (.index 177 x y) ty (.agg (l.map fun n => I ((n : Nat) : Int)).toArray) := by
  have h1 := Val.indexAggN (ty := ty) (w := w) arr177 agg176 hx hy (by omega) (by omega) (by rw [show quartV.length = 32 from rfl]; simp; omega)
  have h2 : (quartV.drop (i * 4)).take 4 = l.map fun n => I ((n : Nat) : Int) := by
    have : i = 0 ∨ i = 1 ∨ i = 2 ∨ i = 3 ∨ i = 4 ∨ i = 5 ∨ i = 6 ∨ i = 7 := by omega
    rcases this with rfl | rfl | rfl | rfl | rfl | rfl | rfl | rfl <;> (injection hr with hr; subst hr; rfl)
  rwa [Int.toNat_natCast, h2] at h1
theorem load_nat {env : Env} {w : World} {x : Operand} {ty : TypeId} {b j : Nat} {l : List Nat} {T : TypeId} (hb : Blk w b (l.map fun n => I ((n : Nat) : Int)) T) (hx : evO env x = some (.pointer (some ⟨b, 0 + j * 1, none⟩))) (h : j < l.length) :
    Val Try.prog env w (.load 3 x) ty (I (gN l j : Nat)) :=
  Val.loadB scl3 (by rw [hx]; simp) hb (i := j) (by rw [List.getElem?_map, List.getElem?_eq_getElem h, gN, List.getElem?_eq_getElem h]; rfl)

set_option maxHeartbeats 2000000 in
theorem turned_ok {w : World} {h : List Int} (hl : h.length = 8) (s : List UInt8) (hs : s.length ≤ 64) (n : Int) (h0 : 0 ≤ n) (hn : n < 9223372036854775808) (last : Bool) :
    Calls Try.prog 132 #[.agg (h.map W32).toArray, St s, I n, .bool last] w (Ret fun v w' => Below w.heap.size w w' ∧ v = .agg ((blockS h s n last).map W32).toArray) := by
  obtain ⟨c, hO, hc⟩ := OldC.start w
  clear hc
  refine enter (n := 107) (res := #[.cell 8 137]) Try.func132 rfl rfl rfl rfl ?_
  refine cseq <| cregion ?_
  refine WR.eff (Eff.boxC c 104 rfl) rfl ?_
  rintro _ w1 ⟨b4, c1, rfl, hM1, hb4⟩
  replace hO := hO.mv hM1 rfl
  refine WR.eff (Eff.allocC c1 108 zero137) rfl ?_
  rintro _ w2 ⟨b8, c2, rfl, hM2, hb8⟩
  replace hO := hO.mv hM2 rfl; replace hb4 := hb4.mv hM2 rfl
  refine cnil ?_
  replace hb4 := BlkC.words (l := h) hb4
  refine cseq <| cregion ?_
  refine WR.eff (Eff.allocC c2 109 zero156) rfl ?_
  rintro _ w3 ⟨b9, c3, rfl, hM3, hb9⟩
  replace hO := hO.mv hM3 rfl; replace hb4 := hb4.mv hM3 rfl; replace hb8 := hb8.mv hM3 rfl
  refine WR.eff (Eff.allocC c3 110 zero156) rfl ?_
  rintro _ w4 ⟨b10, c4, rfl, hM4, hb10⟩
  replace hO := hO.mv hM4 rfl; replace hb4 := hb4.mv hM4 rfl; replace hb8 := hb8.mv hM4 rfl; replace hb9 := hb9.mv hM4 rfl
  refine cnil <| cseq <| cseq <| cregion <| qq (Val.move rfl) rfl <| qq (Val.slen Try.underlying9 rfl) rfl <| qq (Val.move rfl) rfl <| cnil <| cblock ?_
  replace hb9 : BlkC _ _ 109 b9 ((wk s 0).map W32 ++ []) dV := hb9
  replace hb10 : BlkC _ _ 110 b10 ((List.replicate 16 0).map W32 ++ []) dV := hb10
  refine WC.loop (σ := Nat) (fun k => [(1, St s), (2, I n), (3, .bool last), (4, .pointer (some ⟨b4, 0, none⟩)), (8, .pointer (some ⟨b8, 0, none⟩)), (9, .pointer (some ⟨b9, 0, none⟩)), (10, .pointer (some ⟨b10, 0, none⟩)), (19, I s.length), (20, I k)]) (fun k w' => ∃ c', OldC w c' w' ∧ BlkC c' w' 104 b4 (h.map W32 ++ []) d8 ∧ BlkC c' w' 108 b8 [.int .u32 0, .int .u32 0, .int .u32 0, .int .u32 0, .int .u32 0, .int .u32 0, .int .u32 0, .int .u32 0] d8 ∧ BlkC c' w' 109 b9 ((wk s k).map W32 ++ []) dV ∧ BlkC c' w' 110 b10 ((List.replicate 16 0).map W32 ++ []) dV ∧ k ≤ s.length) (fun k => s.length - k) 0 (by repeat (first | exact Sub.nil _ | refine Sub.cons rfl ?_ | refine Sub.consM rfl ?_)) ⟨_, hO, hb4, hb8, hb9, hb10, by omega⟩ ?_
  clear hO hb4 hb8 hb9 hb10
  rintro k wl ⟨cl, hO, hb4, hb8, hb9, hb10, hk⟩
  have hlw := wk_length s k
  refine cseq <| cregion <| qq (Val.lss rfl rfl) rfl <| cnil <| cseq ?_
  refine WC.cond rfl (fun hc3 => ?_) (fun hc3 => ?_)
  ·try simp only [tstS] at hc3
   have hkl : k < s.length := by omega
   refine cskip <| cseq <| cblock <| cseq <| cregion <| qq (Val.move rfl) rfl <| qq (Val.assign rfl) rfl <| cnil ?_
   refine WC.regionD (Kp cl wl []) [0, 0, 0, 1, 0, 0, 0, 0, 0, 0, 0, 0, 0, 0, 3] [0, 1, 2, 3, 4, 5, 6, 7, 8, 9, 10, 11, 12, 13, 14] mixed (by kernel_rfl) ?_
   have hM5 := Mv.drew cl wl []
   have hCw := Mv.drew cl wl []
   generalize wl.drew = w5 at hM5 hCw ⊢
   have hb40 := hb4
   have hb80 := hb8
   have hb90 := hb9
   have hb100 := hb10
   replace hO := hO.mv hM5 rfl; replace hb4 := hb4.mv hM5 rfl; replace hb8 := hb8.mv hM5 rfl; replace hb9 := hb9.mv hM5 rfl; replace hb10 := hb10.mv hM5 rfl
   refine qd rfl rfl rfl (fun _ => Val.move rfl) rfl <| qd rfl rfl rfl (fun _ => Val.quoI rfl rfl (by first | omega | assumption | (simp; omega) | (simp; done)) (by first | omega | assumption | (simp; omega) | (simp; done)) (by first | omega | assumption | (simp; omega) | (simp; done))) rfl <| qd rfl rfl rfl (fun _ => Val.indexArr arr156 rfl rfl (by first | omega | assumption | (simp; omega) | (simp; done)) (by first | omega | assumption | (simp; omega) | (simp; done))) rfl <| qc rfl rfl rfl hCw.kp (fun W hW => Val.loadW scl136 rfl (hb90.kp hW rfl).blk (by first | omega | assumption | (simp; omega) | (simp; done))) rfl <| qd rfl rfl rfl (fun _ => Val.move rfl) rfl <| qd rfl rfl rfl (fun _ => Val.move rfl) rfl <| qd rfl rfl rfl (fun _ => Val.sindex Try.underlying9 rfl rfl (by omega) (List.getElem?_eq_getElem hkl)) rfl <| qd rfl rfl rfl (fun _ => Val.convToU32 Try.underlying5 Try.underlying136 rfl) rfl <| qd rfl rfl rfl (fun _ => Val.move rfl) rfl ?_
   refine qd rfl rfl rfl (fun _ => Val.remI rfl rfl (by first | omega | assumption | (simp; omega) | (simp; done)) (by first | omega | assumption | (simp; omega) | (simp; done))) rfl <| qd rfl rfl rfl (fun _ => Val.mulI rfl rfl (by first | omega | assumption | (simp; omega) | (simp; done)) (by first | omega | assumption | (simp; omega) | (simp; done))) rfl <| qd rfl rfl rfl (fun _ => Val.shl_u32 rfl rfl (by first | omega | assumption | (simp; omega) | (simp; done)) (by first | omega | assumption | (simp; omega) | (simp; done))) rfl <| qd rfl rfl rfl (fun _ => Val.or_u32 rfl rfl) rfl <| qd rfl rfl rfl (fun _ => Val.indexArr arr156 rfl rfl (by first | omega | assumption | (simp; omega) | (simp; done)) (by first | omega | assumption | (simp; omega) | (simp; done))) rfl ?_
   refine WD.wild rfl rfl rfl (Eff.storeW scl136 rfl rfl hb9 (by first | omega | assumption | (simp; omega) | (simp; done))) ?_
   rintro _ w6 ⟨hS, hM6⟩
   replace hO := hO.mv hM6 rfl; replace hb4 := hb4.mv hM6 rfl; replace hb8 := hb8.mv hM6 rfl; replace hb10 := hb10.mv hM6 rfl
   replace hb9 := hS
   refine WD.nil ?_
   clear hb40 hb80 hb90 hb100
   clear hCw
   refine cregion <| qq (Val.addI rfl rfl (by first | omega | assumption | (simp; omega) | (simp; done)) (by first | omega | assumption | (simp; omega) | (simp; done))) rfl <| qq (Val.move rfl) rfl <| cnil ?_
   rw [wk_step hkl] at hb9
   exact ⟨k + 1, (by repeat (first | exact Sub.nil _ | refine Sub.cons rfl ?_ | refine Sub.consM rfl ?_)), ⟨_, hO, hb4, hb8, hb9, hb10, hkl⟩, by omega⟩
  ·try simp only [tstS] at hc3
   have : k = s.length := by omega
   subst this
   have hlw := wordsS_length s
   replace hb9 : BlkC _ _ 109 b9 ((wordsS s).map W32 ++ []) dV := hb9
   refine WC.exit rfl ?_
   refine cseq <| cregion ?_
   refine WR.eff (Eff.pureC cl 1 (Eff.call pf131 rfl (begins_ok))) rfl ?_
   rintro v38 w7 ⟨c7, hM7, hx7, rfl⟩
   replace hO := hO.mv hM7 rfl; replace hb4 := hb4.mv hM7 rfl; replace hb8 := hb8.mv hM7 rfl; replace hb9 := hb9.mv hM7 rfl; replace hb10 := hb10.mv hM7 rfl
   refine WR.eff (Eff.allocC c7 112 zero137) rfl ?_
   rintro _ w8 ⟨b12, c8, rfl, hM8, hb12⟩
   replace hO := hO.mv hM8 rfl; replace hb4 := hb4.mv hM8 rfl; replace hb8 := hb8.mv hM8 rfl; replace hb9 := hb9.mv hM8 rfl; replace hb10 := hb10.mv hM8 rfl
   refine WR.eff_ (Eff.storeNC agg137 rfl rfl hb12 rfl rfl (by repeat (first | exact List.forall_mem_nil _ | refine List.forall_mem_cons.2 ⟨by first | rfl | assumption, ?_⟩))) ?_
   rintro _ w9 ⟨hS, hM9⟩
   replace hO := hO.mv hM9 rfl; replace hb4 := hb4.mv hM9 rfl; replace hb8 := hb8.mv hM9 rfl; replace hb9 := hb9.mv hM9 rfl; replace hb10 := hb10.mv hM9 rfl
   replace hb12 := hS
   refine cnil ?_
   replace hb12 := BlkC.words (l := beginsL) hb12
   refine cseq ?_
   refine WC.regionD (Kp c8 w9 [110]) [0, 0, 2] [0, 1, 2] mixed (by kernel_rfl) ?_
   have hM10 := Mv.drew c8 w9 []
   have hCw := Mv.drew c8 w9 [110]
   generalize w9.drew = w10 at hM10 hCw ⊢
   have hb40 := hb4
   have hb80 := hb8
   have hb90 := hb9
   have hb100 := hb10
   have hb120 := hb12
   replace hO := hO.mv hM10 rfl; replace hb4 := hb4.mv hM10 rfl; replace hb8 := hb8.mv hM10 rfl; replace hb9 := hb9.mv hM10 rfl; replace hb10 := hb10.mv hM10 rfl; replace hb12 := hb12.mv hM10 rfl
   refine qd rfl rfl rfl (fun _ => Val.sliceArr arr156 rfl (by decide)) rfl <| qd rfl rfl rfl (fun _ => Val.sliceArr arr137 rfl (by decide)) rfl ?_
   refine WD.eff rfl rfl rfl ((Eff.copyC sl175 rfl rfl hb10 hb4.blk.cellsAt (by simp [hl]) (by simp [hl]) (one_words _))) rfl ?_
   rintro v41 w11 ⟨c11, hM11, hb10⟩
   refine ⟨fun hC => hC.step hCw hM11 rfl, ?_⟩
   replace hCw := hCw.tr hM11 rfl
   replace hO := hO.mv hM11 rfl; replace hb4 := hb4.mv hM11 rfl; replace hb8 := hb8.mv hM11 rfl; replace hb9 := hb9.mv hM11 rfl; replace hb12 := hb12.mv hM11 rfl
   rw [copy1 hl] at hb10
   refine WD.nil ?_
   clear hb40 hb80 hb90 hb100 hb120
   clear hCw
   refine cseq ?_
   refine WC.regionD (Kp c11 w11 [110]) [0, 0, 2] [0, 1, 2] mixed (by kernel_rfl) ?_
   have hM12 := Mv.drew c11 w11 []
   have hCw := Mv.drew c11 w11 [110]
   generalize w11.drew = w12 at hM12 hCw ⊢
   have hb40 := hb4
   have hb80 := hb8
   have hb90 := hb9
   have hb100 := hb10
   have hb120 := hb12
   replace hO := hO.mv hM12 rfl; replace hb4 := hb4.mv hM12 rfl; replace hb8 := hb8.mv hM12 rfl; replace hb9 := hb9.mv hM12 rfl; replace hb10 := hb10.mv hM12 rfl; replace hb12 := hb12.mv hM12 rfl
   refine qd rfl rfl rfl (fun _ => Val.sliceArrFrom (m := 8) arr156 rfl rfl (by decide)) rfl <| qd rfl rfl rfl (fun _ => Val.sliceArr arr137 rfl (by decide)) rfl ?_
   refine WD.eff rfl rfl rfl ((Eff.copyC sl175 rfl rfl hb10 hb12.blk.cellsAt rfl (by simp [hl, beginsL]) (one_words _))) rfl ?_
   rintro v44 w13 ⟨c13, hM13, hb10⟩
   refine ⟨fun hC => hC.step hCw hM13 rfl, ?_⟩
   replace hCw := hCw.tr hM13 rfl
   replace hO := hO.mv hM13 rfl; replace hb4 := hb4.mv hM13 rfl; replace hb8 := hb8.mv hM13 rfl; replace hb9 := hb9.mv hM13 rfl; replace hb12 := hb12.mv hM13 rfl
   rw [copy2 hl] at hb10
   have hlb : beginsL.length = 8 := rfl
   have hlv : (h ++ beginsL).length = 16 := by rw [List.length_append, hl]; rfl
   refine WD.nil ?_
   clear hb40 hb80 hb90 hb100 hb120
   clear hCw
   refine cseq <| cregion <| qq (Val.indexArr arr156 rfl rfl (by first | omega | assumption | (simp; omega) | (simp; done)) (by first | omega | assumption | (simp; omega) | (simp; done))) rfl <| qq (Val.loadW scl136 rfl hb10.blk (by first | omega | assumption | (simp; omega) | (simp; done))) rfl <| qq (Val.move rfl) rfl <| qq (Val.convToU32 Try.underlying3 Try.underlying136 rfl) rfl <| qq (Val.xor_u32 rfl rfl) rfl <| qq (Val.indexArr arr156 rfl rfl (by first | omega | assumption | (simp; omega) | (simp; done)) (by first | omega | assumption | (simp; omega) | (simp; done))) rfl ?_
   refine WR.eff_ (Eff.storeW scl136 rfl rfl hb10 (by first | omega | assumption | (simp; omega) | (simp; done))) ?_
   rintro _ w14 ⟨hS, hM14⟩
   replace hO := hO.mv hM14 rfl; replace hb4 := hb4.mv hM14 rfl; replace hb8 := hb8.mv hM14 rfl; replace hb9 := hb9.mv hM14 rfl; replace hb12 := hb12.mv hM14 rfl
   replace hb10 := hS
   refine cnil <| cseq <| cregion <| qq (Val.indexArr arr156 rfl rfl (by first | omega | assumption | (simp; omega) | (simp; done)) (by first | omega | assumption | (simp; omega) | (simp; done))) rfl <| qq (Val.loadW scl136 rfl hb10.blk (by first | omega | assumption | (simp; omega) | (simp; done))) rfl <| qq (Val.move rfl) rfl <| qq (Val.shr rfl rfl (by first | omega | assumption | (simp; omega) | (simp; done)) (by simp [IntKind.bits] <;> omega)) rfl <| qq (Val.convToU32 Try.underlying3 Try.underlying136 rfl) rfl <| qq (Val.xor_u32 rfl rfl) rfl ?_
   refine qq (Val.indexArr arr156 rfl rfl (by first | omega | assumption | (simp; omega) | (simp; done)) (by first | omega | assumption | (simp; omega) | (simp; done))) rfl ?_
   refine WR.eff_ (Eff.storeW scl136 rfl rfl hb10 (by first | omega | assumption | (simp; omega) | (simp; done))) ?_
   rintro _ w15 ⟨hS, hM15⟩
   replace hO := hO.mv hM15 rfl; replace hb4 := hb4.mv hM15 rfl; replace hb8 := hb8.mv hM15 rfl; replace hb9 := hb9.mv hM15 rfl; replace hb12 := hb12.mv hM15 rfl
   replace hb10 := hS
   refine cnil ?_
   rw [show (2 : Int) ^ (32 : Int).toNat = 4294967296 by decide] at hb10
   refine cseq <| cseq <| cregion <| qq (Val.move rfl) rfl <| cnil ?_
   refine WC.mono (N := fun e w' => ∃ c', Sub [(4000000, .tuple #[]), (4, .pointer (some ⟨b4, 0, none⟩)), (8, .pointer (some ⟨b8, 0, none⟩)), (9, .pointer (some ⟨b9, 0, none⟩)), (10, .pointer (some ⟨b10, 0, none⟩))] e ∧ OldC w c' w' ∧ BlkC c' w' 104 b4 (h.map W32 ++ []) d8 ∧ BlkC c' w' 108 b8 [.int .u32 0, .int .u32 0, .int .u32 0, .int .u32 0, .int .u32 0, .int .u32 0, .int .u32 0, .int .u32 0] d8 ∧ BlkC c' w' 109 b9 ((wordsS s).map W32 ++ []) dV ∧ BlkC c' w' 110 b10 ((startV h n last).map W32 ++ []) dV) ?_ ?_
   ·refine WC.cond rfl (fun hc12 => ?_) (fun hc12 => ?_)
    ·try simp only [tstS] at hc12
     refine cregion <| qq (Val.indexArr arr156 rfl rfl (by first | omega | assumption | (simp; omega) | (simp; done)) (by first | omega | assumption | (simp; omega) | (simp; done))) rfl <| qq (Val.loadW scl136 rfl hb10.blk (by first | omega | assumption | (simp; omega) | (simp; done))) rfl <| qq (Val.un_xor rfl) rfl <| qq (Val.indexArr arr156 rfl rfl (by first | omega | assumption | (simp; omega) | (simp; done)) (by first | omega | assumption | (simp; omega) | (simp; done))) rfl ?_
     refine WR.eff_ (Eff.storeW scl136 rfl rfl hb10 (by first | omega | assumption | (simp; omega) | (simp; done))) ?_
     rintro _ w16 ⟨hS, hM16⟩
     replace hO := hO.mv hM16 rfl; replace hb4 := hb4.mv hM16 rfl; replace hb8 := hb8.mv hM16 rfl; replace hb9 := hb9.mv hM16 rfl; replace hb12 := hb12.mv hM16 rfl
     replace hb10 := hS
     refine cnil ?_
     exact ⟨_, (by repeat (first | exact Sub.nil _ | refine Sub.cons rfl ?_ | refine Sub.consM rfl ?_)), hO, hb4, hb8, hb9, by rw [startV, hc12]; exact hb10⟩
    ·try simp only [tstS] at hc12
     refine cskip ?_
     exact ⟨_, (by repeat (first | exact Sub.nil _ | refine Sub.cons rfl ?_ | refine Sub.consM rfl ?_)), hO, hb4, hb8, hb9, by rw [startV, hc12]; exact hb10⟩
   ·skip
    rintro e9 w9 ⟨c9, hsub, hO, hb4, hb8, hb9, hb10⟩
    refine WC.sub hsub ?_
    clear hsub e9
    refine cseq <| cseq <| cregion ?_
    refine WR.eff (Eff.pureC c9 1 (Eff.call pf150 rfl (orders_ok))) rfl ?_
    rintro v63 w17 ⟨c17, hM17, hx17, rfl⟩
    replace hO := hO.mv hM17 rfl; replace hb4 := hb4.mv hM17 rfl; replace hb8 := hb8.mv hM17 rfl; replace hb9 := hb9.mv hM17 rfl; replace hb10 := hb10.mv hM17 rfl
    refine qq (Val.move rfl) rfl <| cnil <| cblock ?_
    refine WC.loop (σ := Nat) (fun r => [(4, .pointer (some ⟨b4, 0, none⟩)), (8, .pointer (some ⟨b8, 0, none⟩)), (9, .pointer (some ⟨b9, 0, none⟩)), (10, .pointer (some ⟨b10, 0, none⟩)), (63, .agg rowsV.toArray), (64, I r)]) (fun r w' => ∃ c', OldC w c' w' ∧ BlkC c' w' 104 b4 (h.map W32 ++ []) d8 ∧ BlkC c' w' 108 b8 [.int .u32 0, .int .u32 0, .int .u32 0, .int .u32 0, .int .u32 0, .int .u32 0, .int .u32 0, .int .u32 0] d8 ∧ BlkC c' w' 109 b9 ((wordsS s).map W32 ++ []) dV ∧ BlkC c' w' 110 b10 ((rk (wordsS s) (startV h n last) r).map W32 ++ []) dV ∧ r ≤ 10) (fun r => 10 - r) 0 (by repeat (first | exact Sub.nil _ | refine Sub.cons rfl ?_ | refine Sub.consM rfl ?_)) ⟨_, hO, hb4, hb8, hb9, hb10, by omega⟩ ?_
    clear hO hb4 hb8 hb9 hb10
    rintro r wr ⟨cr, hO, hb4, hb8, hb9, hb10, hr⟩
    have hlr : (rk (wordsS s) (startV h n last) r).length = 16 := by rw [rk_length, startV_length hl]
    refine cseq <| cregion <| qq (Val.lss rfl rfl) rfl <| cnil <| cseq ?_
    refine WC.cond rfl (fun hc15 => ?_) (fun hc15 => ?_)
    ·try simp only [tstS] at hc15
     have hr10 : r < 10 := by omega
     obtain ⟨l, hrow, hll, hlt⟩ := row_len r hr10
     refine cskip <| cseq <| cblock <| cseq <| cregion ?_
     refine WR.val (index_row rfl rfl hr10 hrow) rfl ?_
     refine WR.eff (Eff.allocC cr 114 zero157) rfl ?_
     rintro _ w18 ⟨b14, c18, rfl, hM18, hb14⟩
     replace hO := hO.mv hM18 rfl; replace hb4 := hb4.mv hM18 rfl; replace hb8 := hb8.mv hM18 rfl; replace hb9 := hb9.mv hM18 rfl; replace hb10 := hb10.mv hM18 rfl
     refine WR.eff_ (Eff.storeNC agg157 rfl rfl hb14 rfl (by simpa using hll) (fun v hv => by obtain ⟨n, _, rfl⟩ := List.mem_map.1 hv; rfl)) ?_
     rintro _ wA ⟨hS, hMA⟩
     replace hO := hO.mv hMA rfl; replace hb4 := hb4.mv hMA rfl; replace hb8 := hb8.mv hMA rfl; replace hb9 := hb9.mv hMA rfl; replace hb10 := hb10.mv hMA rfl; replace hb14 := hS
     refine cnil <| cseq <| cregion ?_
     refine WR.eff (Eff.pureC c18 1 (Eff.call pf151 rfl (quarters_ok))) rfl ?_
     rintro v67 w19 ⟨c19, hM19, hx19, rfl⟩
     replace hO := hO.mv hM19 rfl; replace hb4 := hb4.mv hM19 rfl; replace hb8 := hb8.mv hM19 rfl; replace hb9 := hb9.mv hM19 rfl; replace hb10 := hb10.mv hM19 rfl; replace hb14 := hb14.mv hM19 rfl
     refine qq (Val.move rfl) rfl <| cnil <| cblock ?_
     generalize e0 : rk (wordsS s) (startV h n last) r = V0 at hb10 hlr
     refine WC.loop (σ := Nat) (fun i => [(4, .pointer (some ⟨b4, 0, none⟩)), (8, .pointer (some ⟨b8, 0, none⟩)), (9, .pointer (some ⟨b9, 0, none⟩)), (10, .pointer (some ⟨b10, 0, none⟩)), (14, .pointer (some ⟨b14, 0, none⟩)), (63, .agg rowsV.toArray), (64, I r), (67, .agg quartV.toArray), (68, I i)]) (fun i w' => ∃ c', OldC w c' w' ∧ BlkC c' w' 104 b4 (h.map W32 ++ []) d8 ∧ BlkC c' w' 108 b8 [.int .u32 0, .int .u32 0, .int .u32 0, .int .u32 0, .int .u32 0, .int .u32 0, .int .u32 0, .int .u32 0] d8 ∧ BlkC c' w' 109 b9 ((wordsS s).map W32 ++ []) dV ∧ BlkC c' w' 110 b10 ((ik (wordsS s) r V0 i).map W32 ++ []) dV ∧ BlkC c' w' 114 b14 (l.map fun n => I ((n : Nat) : Int)) 157 ∧ i ≤ 8) (fun i => 8 - i) 0 (by repeat (first | exact Sub.nil _ | refine Sub.cons rfl ?_ | refine Sub.consM rfl ?_)) ⟨_, hO, hb4, hb8, hb9, hb10, hb14, by omega⟩ ?_
     clear hO hb4 hb8 hb9 hb10 hb14
     rintro i wi ⟨ci, hO, hb4, hb8, hb9, hb10, hb14, hi⟩
     have hli : (ik (wordsS s) r V0 i).length = 16 := by rw [ik_length, hlr]
     refine cseq <| cregion <| qq (Val.lss rfl rfl) rfl <| cnil <| cseq ?_
     refine WC.cond rfl (fun hc18 => ?_) (fun hc18 => ?_)
     ·try simp only [tstS] at hc18
      have hi8 : i < 8 := by omega
      obtain ⟨q0, q1, q2, q3, hq, hq0, hq1, hq2, hq3⟩ := quart_form i hi8
      have g1 := hlt (2 * (i : Int)).toNat; have g2' := hlt (2 * (i : Int) + 1).toNat
      refine cskip <| cseq <| cblock <| cseq <| cregion <| qq (Val.move rfl) rfl ?_
      refine WR.val (index_quart rfl rfl hi8 hq) rfl ?_
      refine WR.eff (Eff.allocC ci 116 zero176) rfl ?_
      rintro _ w20 ⟨b16, c20, rfl, hM20, hb16⟩
      replace hO := hO.mv hM20 rfl; replace hb4 := hb4.mv hM20 rfl; replace hb8 := hb8.mv hM20 rfl; replace hb9 := hb9.mv hM20 rfl; replace hb10 := hb10.mv hM20 rfl; replace hb14 := hb14.mv hM20 rfl
      refine qq (Val.assign rfl) rfl ?_
      refine WR.eff_ (Eff.storeNC agg176 rfl rfl hb16 rfl rfl (by repeat (first | exact List.forall_mem_nil _ | refine List.forall_mem_cons.2 ⟨by first | rfl | assumption, ?_⟩))) ?_
      rintro _ w21 ⟨hS, hM21⟩
      replace hO := hO.mv hM21 rfl; replace hb4 := hb4.mv hM21 rfl; replace hb8 := hb8.mv hM21 rfl; replace hb9 := hb9.mv hM21 rfl; replace hb10 := hb10.mv hM21 rfl; replace hb14 := hb14.mv hM21 rfl
      replace hb16 := hS
      refine cnil ?_
      refine WC.regionD (Kp c20 w21 [110]) [1, 0, 0, 0, 1, 0, 1, 0, 0, 0, 0, 1, 0, 1, 2] [0, 1, 2, 3, 4, 5, 6, 7, 8, 9, 10, 11, 12, 13, 14] mixed (by kernel_rfl) ?_
      have hM22 := Mv.drew c20 w21 []
      have hCw := Mv.drew c20 w21 [110]
      generalize w21.drew = w22 at hM22 hCw ⊢
      have hb40 := hb4
      have hb80 := hb8
      have hb90 := hb9
      have hb100 := hb10
      have hb140 := hb14
      have hb160 := hb16
      replace hO := hO.mv hM22 rfl; replace hb4 := hb4.mv hM22 rfl; replace hb8 := hb8.mv hM22 rfl; replace hb9 := hb9.mv hM22 rfl; replace hb10 := hb10.mv hM22 rfl; replace hb14 := hb14.mv hM22 rfl; replace hb16 := hb16.mv hM22 rfl
      refine qc rfl rfl rfl hCw.kp (fun W hW => Val.loadBN agg176 rfl (hb160.kp hW rfl).blk rfl) rfl <| qd rfl rfl rfl (fun _ => Val.move rfl) rfl <| qd rfl rfl rfl (fun _ => Val.mulI rfl rfl (by first | omega | assumption | (simp; omega) | (simp; done)) (by first | omega | assumption | (simp; omega) | (simp; done))) rfl <| qd rfl rfl rfl (fun _ => Val.indexArr arr157 rfl rfl (by first | omega | assumption | (simp; omega) | (simp; done)) (by first | omega | assumption | (simp; omega) | (simp; done))) rfl <| qc rfl rfl rfl hCw.kp (fun W hW => load_nat (hb140.kp hW rfl).blk rfl (by omega)) rfl <| qd rfl rfl rfl (fun _ => Val.indexArr arr156 rfl rfl (by first | omega | assumption | (simp; omega) | (simp; done)) (by first | omega | assumption | (simp; omega) | (simp; done))) rfl <| qc rfl rfl rfl hCw.kp (fun W hW => Val.loadW scl136 rfl (hb90.kp hW rfl).blk (by first | omega | assumption | (simp; omega) | (simp; done))) rfl <| qd rfl rfl rfl (fun _ => Val.move rfl) rfl <| qd rfl rfl rfl (fun _ => Val.mulI rfl rfl (by first | omega | assumption | (simp; omega) | (simp; done)) (by first | omega | assumption | (simp; omega) | (simp; done))) rfl ?_
      refine qd rfl rfl rfl (fun _ => Val.addI rfl rfl (by first | omega | assumption | (simp; omega) | (simp; done)) (by first | omega | assumption | (simp; omega) | (simp; done))) rfl <| qd rfl rfl rfl (fun _ => Val.indexArr arr157 rfl rfl (by first | omega | assumption | (simp; omega) | (simp; done)) (by first | omega | assumption | (simp; omega) | (simp; done))) rfl <| qc rfl rfl rfl hCw.kp (fun W hW => load_nat (hb140.kp hW rfl).blk rfl (by omega)) rfl <| qd rfl rfl rfl (fun _ => Val.indexArr arr156 rfl rfl (by first | omega | assumption | (simp; omega) | (simp; done)) (by first | omega | assumption | (simp; omega) | (simp; done))) rfl <| qc rfl rfl rfl hCw.kp (fun W hW => Val.loadW scl136 rfl (hb90.kp hW rfl).blk (by first | omega | assumption | (simp; omega) | (simp; done))) rfl ?_
      refine WD.eff rfl rfl rfl (Eff.turnC hb10 (Eff.call pf152 rfl (mix_ok hb10.blk hli q0 q1 q2 q3 hq0 hq1 hq2 hq3 _ _))) rfl ?_
      rintro v86 w23 ⟨c23, hM23, hb10⟩
      refine ⟨fun hC => hC.step hCw hM23 rfl, ?_⟩
      replace hCw := hCw.tr hM23 rfl
      replace hO := hO.mv hM23 rfl; replace hb4 := hb4.mv hM23 rfl; replace hb8 := hb8.mv hM23 rfl; replace hb9 := hb9.mv hM23 rfl; replace hb14 := hb14.mv hM23 rfl; replace hb16 := hb16.mv hM23 rfl
      refine WD.nil ?_
      clear hb40 hb80 hb90 hb100 hb140 hb160
      clear hCw
      refine cregion <| qq (Val.addI rfl rfl (by first | omega | assumption | (simp; omega) | (simp; done)) (by first | omega | assumption | (simp; omega) | (simp; done))) rfl <| qq (Val.move rfl) rfl <| cnil ?_
      simp only [Int.toNat_natCast, show (2 * (i : Int)).toNat = 2 * i by omega, show (2 * (i : Int) + 1).toNat = 2 * i + 1 by omega] at hb10
      rw [← round_eq hrow hq, ← ik_succ] at hb10
      exact ⟨i + 1, (by repeat (first | exact Sub.nil _ | refine Sub.cons rfl ?_ | refine Sub.consM rfl ?_)), ⟨_, hO, hb4, hb8, hb9, hb10, hb14, by omega⟩, by omega⟩
     ·try simp only [tstS] at hc18
      have : i = 8 := by omega
      subst this
      have e9 : ik (wordsS s) r V0 8 = rk (wordsS s) (startV h n last) (r + 1) := by rw [rk_succ, e0]; rfl
      rw [e9] at hb10
      refine WC.exit rfl ?_
      refine cregion <| qq (Val.addI rfl rfl (by first | omega | assumption | (simp; omega) | (simp; done)) (by first | omega | assumption | (simp; omega) | (simp; done))) rfl <| qq (Val.move rfl) rfl <| cnil ?_
      exact ⟨r + 1, (by repeat (first | exact Sub.nil _ | refine Sub.cons rfl ?_ | refine Sub.consM rfl ?_)), ⟨_, hO, hb4, hb8, hb9, hb10, by omega⟩, by omega⟩
    ·try simp only [tstS] at hc15
     have : r = 10 := by omega
     subst this
     refine WC.exit rfl ?_
     refine cseq <| cseq <| cregion <| qq (Val.move rfl) rfl <| cnil <| cblock ?_
     refine WC.loop (σ := Nat) (fun k => [(4, .pointer (some ⟨b4, 0, none⟩)), (8, .pointer (some ⟨b8, 0, none⟩)), (10, .pointer (some ⟨b10, 0, none⟩)), (89, I k)]) (fun k w' => ∃ c', OldC w c' w' ∧ BlkC c' w' 104 b4 ((hcp h (rk (wordsS s) (startV h n last) 10) k).map W32 ++ []) d8 ∧ BlkC c' w' 108 b8 [.int .u32 0, .int .u32 0, .int .u32 0, .int .u32 0, .int .u32 0, .int .u32 0, .int .u32 0, .int .u32 0] d8 ∧ BlkC c' w' 110 b10 ((rk (wordsS s) (startV h n last) 10).map W32 ++ []) dV ∧ k ≤ 8) (fun k => 8 - k) 0 (by repeat (first | exact Sub.nil _ | refine Sub.cons rfl ?_ | refine Sub.consM rfl ?_)) ⟨_, hO, hb4, hb8, hb10, by omega⟩ ?_
     clear hO hb4 hb8 hb9 hb10
     rintro k wk' ⟨ck, hO, hb4, hb8, hb10, hk⟩
     have hlh : (hcp h (rk (wordsS s) (startV h n last) 10) k).length = 8 := by rw [hcp_eq, hck_length, hl]
     refine cseq <| cregion <| qq (Val.lss rfl rfl) rfl <| cnil <| cseq ?_
     refine WC.cond rfl (fun hc24 => ?_) (fun hc24 => ?_)
     ·try simp only [tstS] at hc24
      have hk8 : k < 8 := by omega
      refine cskip <| cseq <| cblock <| cseq <| cregion <| qq (Val.move rfl) rfl <| qq (Val.assign rfl) rfl <| cnil ?_
      refine WC.regionD (Kp ck wk' []) [0, 0, 1, 0, 0, 1, 0, 0, 0, 1, 0, 0, 0, 3] [0, 1, 2, 3, 4, 5, 6, 7, 8, 9, 10, 11, 12, 13] mixed (by kernel_rfl) ?_
      have hM24 := Mv.drew ck wk' []
      have hCw := Mv.drew ck wk' []
      generalize wk'.drew = w24 at hM24 hCw ⊢
      have hb40 := hb4
      have hb80 := hb8
      have hb100 := hb10
      replace hO := hO.mv hM24 rfl; replace hb4 := hb4.mv hM24 rfl; replace hb8 := hb8.mv hM24 rfl; replace hb10 := hb10.mv hM24 rfl
      refine qd rfl rfl rfl (fun _ => Val.move rfl) rfl <| qd rfl rfl rfl (fun _ => Val.indexArr arr137 rfl rfl (by first | omega | assumption | (simp; omega) | (simp; done)) (by first | omega | assumption | (simp; omega) | (simp; done))) rfl <| qc rfl rfl rfl hCw.kp (fun W hW => Val.loadW scl136 rfl (hb40.kp hW rfl).blk (by first | omega | assumption | (simp; omega) | (simp; done))) rfl <| qd rfl rfl rfl (fun _ => Val.move rfl) rfl <| qd rfl rfl rfl (fun _ => Val.indexArr arr156 rfl rfl (by first | omega | assumption | (simp; omega) | (simp; done)) (by first | omega | assumption | (simp; omega) | (simp; done))) rfl <| qc rfl rfl rfl hCw.kp (fun W hW => Val.loadW scl136 rfl (hb100.kp hW rfl).blk (by first | omega | assumption | (simp; omega) | (simp; done))) rfl <| qd rfl rfl rfl (fun _ => Val.move rfl) rfl <| qd rfl rfl rfl (fun _ => Val.addI rfl rfl (by first | omega | assumption | (simp; omega) | (simp; done)) (by first | omega | assumption | (simp; omega) | (simp; done))) rfl <| qd rfl rfl rfl (fun _ => Val.indexArr arr156 rfl rfl (by first | omega | assumption | (simp; omega) | (simp; done)) (by first | omega | assumption | (simp; omega) | (simp; done))) rfl ?_
      refine qc rfl rfl rfl hCw.kp (fun W hW => Val.loadW scl136 rfl (hb100.kp hW rfl).blk (by first | omega | assumption | (simp; omega) | (simp; done))) rfl <| qd rfl rfl rfl (fun _ => Val.xor_u32 rfl rfl) rfl <| qd rfl rfl rfl (fun _ => Val.xor_u32 rfl rfl) rfl <| qd rfl rfl rfl (fun _ => Val.indexArr arr137 rfl rfl (by first | omega | assumption | (simp; omega) | (simp; done)) (by first | omega | assumption | (simp; omega) | (simp; done))) rfl ?_
      refine WD.wild rfl rfl rfl (Eff.storeW scl136 rfl rfl hb4 (by first | omega | assumption | (simp; omega) | (simp; done))) ?_
      rintro _ w25 ⟨hS, hM25⟩
      replace hO := hO.mv hM25 rfl; replace hb8 := hb8.mv hM25 rfl; replace hb10 := hb10.mv hM25 rfl
      replace hb4 := hS
      refine WD.nil ?_
      clear hb40 hb80 hb100
      clear hCw
      refine cregion <| qq (Val.addI rfl rfl (by first | omega | assumption | (simp; omega) | (simp; done)) (by first | omega | assumption | (simp; omega) | (simp; done))) rfl <| qq (Val.move rfl) rfl <| cnil ?_
      simp only [Int.toNat_natCast, show ((k : Int) + 8).toNat = k + 8 by omega] at hb4
      rw [← hcp_succ] at hb4
      exact ⟨k + 1, (by repeat (first | exact Sub.nil _ | refine Sub.cons rfl ?_ | refine Sub.consM rfl ?_)), ⟨_, hO, hb4, hb8, hb10, by omega⟩, by omega⟩
     ·try simp only [tstS] at hc24
      have : k = 8 := by omega
      subst this
      rw [hcp_eq, hck_eight hl] at hb4
      refine WC.exit rfl ?_
      refine cseq <| cregion <| qq (Val.loadBN agg137 rfl hb4.blk rfl) rfl ?_
      refine WR.eff_ (Eff.storeNC agg137 rfl rfl hb8 rfl rfl (one_words _)) ?_
      rintro _ wA ⟨hS, hMA⟩
      replace hO := hO.mv hMA rfl; replace hb8 := hS
      refine cnil ?_
      refine WC.retR1 rfl (RVal.cellN agg137 rfl hb8.blk rfl) ?_
      exact ⟨hO.below, by rw [List.append_nil]; rfl⟩
end Go.Proofs.Ytnddlhjafkhdoaa
