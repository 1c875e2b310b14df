/- Digests: a block, as the program has it. | DERIVED: THE SHELF's CONTRACTS AT THIS DUMP, IN PLAIN WORDS (tools/lay-plain.mjs out of 'TryShelf.lean', which tools/lay-shelf.mjs wrote): THE SAME DECLARATIONS UNDER THE SAME NAMES: 'import', 'namespace', 'open', 'def', 'theorem' AND NOTHING ELSE: no command of the shelf's: FOR A HAND-IN. Each laying: the table of numbers ('.._ren') and one theorem, a field a fact of the dump's own or the kernel's comparison; each contract: ONE APPLICATION. | Digests, of any text: the program's and the page's are one. | Digests, of any text: sums. | Manifests: copies, comparisons, the page's bytes. | Manifests: the program's bytes. | Manifests: which one bytes are, the program's word. | Manifests: which one bytes are, the page's word. | Slices of rows of one's own that begin anywhere in the row; labels' scopes. | Things: which may be; where one is; copies, comparisons, weights. | Manifests: the law of their bytes. No condition. -/
import Derived.Shelf.Strings.Builder1
import Derived.Shelf.Strings.Builder2
import Derived.Shelf.Small.Bits
import Derived.Shelf.Small.Strs
import Derived.Shelf.Small.Wraps
import Derived.Shelf.Strings.BuilderF
import Derived.Shelf.Strconv.Itoa0
import Derived.Shelf.LaysM
import Derived.Shelf.Strconv.Clone
import Derived.Shelf.Sort.Plain
import Derived.Shelf.Strings.Prefix
import Derived.Shelf.Bits.Mul64
import Derived.Shelf.Slices.Turned
import Derived.Ground.Names2Prog
import Derived.Shelf.Slices.Clone
import Derived.Shelf.Slices.CompactS
import Derived.Shelf.Slices.SearchI
import Derived.Shelf.Slices.Cells
import Derived.Shelf.Slices.In.SortNone
import Derived.Ground.SlgnProg
import Derived.Shelf.SlicesE.Clone
import Derived.Test.YtnddlhjafkhdoaaChecked
import Derived.Test.YtnddlhjafkhdoaaU2
set_option linter.unusedSimpArgs false
set_option linter.unusedVariables false
set_option maxRecDepth 100000
namespace Silo
open Go Go.Eng
def gN (l : List Nat) (j : Nat) : Nat := l[j]?.getD 0
theorem row_len (r : Nat) (h : r < 10) : ∃ l, rowsL[r]? = some l ∧ l.length = 16 ∧ ∀ j, gN l j < 16 := by
  obtain ⟨a0, a1, a2, a3, a4, a5, a6, a7, a8, a9, a10, a11, a12, a13, a14, a15, hr, q0, q1, q2, q3, q4, q5, q6, q7, q8, q9, q10, q11, q12, q13, q14, q15⟩ := row_form r h
  refine ⟨_, hr, rfl, fun j => ?_⟩
  have : j = 0 ∨ j = 1 ∨ j = 2 ∨ j = 3 ∨ j = 4 ∨ j = 5 ∨ j = 6 ∨ j = 7 ∨ j = 8 ∨ j = 9 ∨ j = 10 ∨ j = 11 ∨ j = 12 ∨ j = 13 ∨ j = 14 ∨ j = 15 ∨ 16 ≤ j := by omega
  rcases this with rfl | rfl | rfl | rfl | rfl | rfl | rfl | rfl | rfl | rfl | rfl | rfl | rfl | rfl | rfl | rfl | hj <;> first | assumption | skip
  rw [gN, List.getElem?_eq_none (by simpa using hj)]; decide
theorem quart_form (i : Nat) (h : i < 8) : ∃ q0 q1 q2 q3 : Nat, quartL[i]? = some [q0, q1, q2, q3] ∧ q0 < 16 ∧ q1 < 16 ∧ q2 < 16 ∧ q3 < 16 := by
  have : i = 0 ∨ i = 1 ∨ i = 2 ∨ i = 3 ∨ i = 4 ∨ i = 5 ∨ i = 6 ∨ i = 7 := by omega
  rcases this with rfl | rfl | rfl | rfl | rfl | rfl | rfl | rfl <;> exact ⟨_, _, _, _, rfl, by decide⟩
def ik (m : List Int) (r : Nat) (v : List Int) (i : Nat) : List Int := (List.range i).foldl (roundS m r) v
theorem ik_succ (m : List Int) (r : Nat) (v : List Int) (i : Nat) : ik m r v (i + 1) = roundS m r (ik m r v i) i := fold_succ _ _ _
theorem ik_length (m : List Int) (r : Nat) (v : List Int) : ∀ i, (ik m r v i).length = v.length
  | 0 => rfl
  | i + 1 => by rw [ik_succ, roundS, mixS_length, ik_length m r v i]
theorem round_eq {m v : List Int} {r i : Nat} {l : List Nat} {q0 q1 q2 q3 : Nat} (hr : rowsL[r]? = some l) (hq : quartL[i]? = some [q0, q1, q2, q3]) : roundS m r v i = mixS v q0 q1 q2 q3 (gW m (gN l (2 * i))) (gW m (gN l (2 * i + 1))) := by
  simp only [roundS, g2, hr, hq, Option.getD_some]; rfl
theorem copy1 {h : List Int} (hl : h.length = 8) : (((List.replicate 16 0).map W32 ++ []).take 0 ++ (h.map W32 ++ []) ++ ((List.replicate 16 0).map W32 ++ []).drop (0 + (h.map W32 ++ []).length)) = (h ++ List.replicate 8 0).map W32 ++ [] := by
  obtain ⟨a, b, c, d, e, f, g, i, rfl⟩ := eight hl
  rfl
theorem copy2 {h : List Int} (hl : h.length = 8) : (((h ++ List.replicate 8 0).map W32 ++ []).take (0 + 8 * 1) ++ (beginsL.map W32 ++ []) ++ ((h ++ List.replicate 8 0).map W32 ++ []).drop (0 + 8 * 1 + (beginsL.map W32 ++ []).length)) = (h ++ beginsL).map W32 ++ [] := by
  obtain ⟨a, b, c, d, e, f, g, i, rfl⟩ := eight hl
  rfl
theorem one_words (l : List Int) : ∀ v ∈ l.map W32 ++ [], v.oneCell' = true := fun v hv => by
  rw [List.append_nil] at hv
  obtain ⟨n, _, rfl⟩ := List.mem_map.1 hv
  rfl
def hcp (h v : List Int) (k : Nat) : List Int := (List.range k).foldl (fun l i => l.set i (x32 (gW l i) (x32 (gW v i) (gW v (i + 8))))) h
theorem hcp_succ (h v : List Int) (k : Nat) : hcp h v (k + 1) = (hcp h v k).set k (x32 (gW (hcp h v k) k) (x32 (gW v k) (gW v (k + 8)))) := fold_succ _ _ _
theorem hcp_eq (h v : List Int) (k : Nat) : hcp h v k = hck h v k := by unfold hcp hck; simp only [x32_assoc]
end Silo
namespace Go.Proofs.Ytnddlhjafkhdoaa
open Go Go.Eng Go.RowKit Silo TryT
theorem index_row {env : Env} {w : World} {x y : Operand} {ty : TypeId} {r : Nat} {l : List Nat} (hx : evO env x = some (.agg rowsV.toArray)) (hy : evO env y = some (I (r : Int))) (h : r < 10) (hr : rowsL[r]? = some l) :
    Val Try.prog env w (.index 158 x y) ty (.agg (l.map fun n => I ((n : Nat) : Int)).toArray) := by
  have h1 := Val.indexAggN (ty := ty) (w := w) arr158 agg157 hx hy (by omega) (by omega) (by rw [show rowsV.length = 160 from rfl]; simp; omega)
  have h2 := rows_part r h l hr
  rw [Nat.zero_add] at h2
  rwa [Int.toNat_natCast, h2] at h1
theorem index_quart {env : Env} {w : World} {x y : Operand} {ty : TypeId} {i : Nat} {l : List Nat} (hx : evO env x = some (.agg quartV.toArray)) (hy : evO env y = some (I (i : Int))) (h : i < 8) (hr : quartL[i]? = some l) :
    Val Try.prog env w (.index 177 x y) ty (.agg (l.map fun n => I ((n : Nat) : Int)).toArray) := by
  have h1 := Val.indexAggN (ty := ty) (w := w) arr177 agg176 hx hy (by omega) (by omega) (by rw [show quartV.length = 32 from rfl]; simp; omega)
  have h2 : (quartV.drop (i * 4)).take 4 = l.map fun n => I ((n : Nat) : Int) := by
    have : i = 0 ∨ i = 1 ∨ i = 2 ∨ i = 3 ∨ i = 4 ∨ i = 5 ∨ i = 6 ∨ i = 7 := by omega
    rcases this with rfl | rfl | rfl | rfl | rfl | rfl | rfl | rfl <;> (injection hr with hr; subst hr; rfl)
  rwa [Int.toNat_natCast, h2] at h1
theorem load_nat {env : Env} {w : World} {x : Operand} {ty : TypeId} {b j : Nat} {l : List Nat} {T : TypeId} (hb : Blk w b (l.map fun n => I ((n : Nat) : Int)) T) (hx : evO env x = some (.pointer (some ⟨b, 0 + j * 1, none⟩))) (h : j < l.length) :
    Val Try.prog env w (.load 3 x) ty (I (gN l j : Nat)) :=
  Val.loadB scl3 (by rw [hx]; simp) hb (i := j) (by rw [List.getElem?_map, List.getElem?_eq_getElem h, gN, List.getElem?_eq_getElem h]; rfl)

set_option maxHeartbeats 2000000 in
theorem turned_ok {w : World} {h : List Int} (hl : h.length = 8) (s : List UInt8) (hs : s.length ≤ 64) (n : Int) (h0 : 0 ≤ n) (hn : n < 9223372036854775808) (last : Bool) :
    Calls Try.prog 132 #[.agg (h.map W32).toArray, St s, I n, .bool last] w (Ret fun v w' => Below w.heap.size w w' ∧ v = .agg ((blockS h s n last).map W32).toArray) := by
  obtain ⟨c, hO, hc⟩ := OldC.start w
  clear hc
  refine enter (n := 107) (res := #[.cell 8 137]) Try.func132 rfl rfl rfl rfl ?_
  refine cseq <| cregion ?_
  refine WR.eff (Eff.boxC c 104 rfl) rfl ?_
  rintro _ w1 ⟨b4, c1, rfl, hM1, hb4⟩
  replace hO := hO.mv hM1 rfl
  refine WR.eff (Eff.allocC c1 108 zero137) rfl ?_
  rintro _ w2 ⟨b8, c2, rfl, hM2, hb8⟩
  replace hO := hO.mv hM2 rfl; replace hb4 := hb4.mv hM2 rfl
  refine cnil ?_
  replace hb4 := BlkC.words (l := h) hb4
  refine cseq <| cregion ?_
  refine WR.eff (Eff.allocC c2 109 zero156) rfl ?_
  rintro _ w3 ⟨b9, c3, rfl, hM3, hb9⟩
  replace hO := hO.mv hM3 rfl; replace hb4 := hb4.mv hM3 rfl; replace hb8 := hb8.mv hM3 rfl
  refine WR.eff (Eff.allocC c3 110 zero156) rfl ?_
  rintro _ w4 ⟨b10, c4, rfl, hM4, hb10⟩
  replace hO := hO.mv hM4 rfl; replace hb4 := hb4.mv hM4 rfl; replace hb8 := hb8.mv hM4 rfl; replace hb9 := hb9.mv hM4 rfl
  refine cnil <| cseq <| cseq <| cregion <| qq (Val.move rfl) rfl <| qq (Val.slen Try.underlying9 rfl) rfl <| qq (Val.move rfl) rfl <| cnil <| cblock ?_
  replace hb9 : BlkC _ _ 109 b9 ((wk s 0).map W32 ++ []) dV := hb9
  replace hb10 : BlkC _ _ 110 b10 ((List.replicate 16 0).map W32 ++ []) dV := hb10
  refine WC.loop (σ := Nat) (fun k => [(1, St s), (2, I n), (3, .bool last), (4, .pointer (some ⟨b4, 0, none⟩)), (8, .pointer (some ⟨b8, 0, none⟩)), (9, .pointer (some ⟨b9, 0, none⟩)), (10, .pointer (some ⟨b10, 0, none⟩)), (19, I s.length), (20, I k)]) (fun k w' => ∃ c', OldC w c' w' ∧ BlkC c' w' 104 b4 (h.map W32 ++ []) d8 ∧ BlkC c' w' 108 b8 [.int .u32 0, .int .u32 0, .int .u32 0, .int .u32 0, .int .u32 0, .int .u32 0, .int .u32 0, .int .u32 0] d8 ∧ BlkC c' w' 109 b9 ((wk s k).map W32 ++ []) dV ∧ BlkC c' w' 110 b10 ((List.replicate 16 0).map W32 ++ []) dV ∧ k ≤ s.length) (fun k => s.length - k) 0 (by repeat (first | exact Sub.nil _ | refine Sub.cons rfl ?_ | refine Sub.consM rfl ?_)) ⟨_, hO, hb4, hb8, hb9, hb10, by omega⟩ ?_
  clear hO hb4 hb8 hb9 hb10
  rintro k wl ⟨cl, hO, hb4, hb8, hb9, hb10, hk⟩
  have hlw := wk_length s k
  refine cseq <| cregion <| qq (Val.lss rfl rfl) rfl <| cnil <| cseq ?_
  refine WC.cond rfl (fun hc3 => ?_) (fun hc3 => ?_)
  ·try simp only [tstS] at hc3
   have hkl : k < s.length := by omega
   refine cskip <| cseq <| cblock <| cseq <| cregion <| qq (Val.move rfl) rfl <| qq (Val.assign rfl) rfl <| cnil ?_
   refine WC.regionD (Kp cl wl []) [0, 0, 0, 1, 0, 0, 0, 0, 0, 0, 0, 0, 0, 0, 3] [0, 1, 2, 3, 4, 5, 6, 7, 8, 9, 10, 11, 12, 13, 14] mixed (by kernel_rfl) ?_
   have hM5 := Mv.drew cl wl []
   have hCw := Mv.drew cl wl []
   generalize wl.drew = w5 at hM5 hCw ⊢
   have hb40 := hb4
   have hb80 := hb8
   have hb90 := hb9
   have hb100 := hb10
   replace hO := hO.mv hM5 rfl; replace hb4 := hb4.mv hM5 rfl; replace hb8 := hb8.mv hM5 rfl; replace hb9 := hb9.mv hM5 rfl; replace hb10 := hb10.mv hM5 rfl
   refine qd rfl rfl rfl (fun _ => Val.move rfl) rfl <| qd rfl rfl rfl (fun _ => Val.quoI rfl rfl (by first | omega | assumption | (simp; omega) | (simp; done)) (by first | omega | assumption | (simp; omega) | (simp; done)) (by first | omega | assumption | (simp; omega) | (simp; done))) rfl <| qd rfl rfl rfl (fun _ => Val.indexArr arr156 rfl rfl (by first | omega | assumption | (simp; omega) | (simp; done)) (by first | omega | assumption | (simp; omega) | (simp; done))) rfl <| qc rfl rfl rfl hCw.kp (fun W hW => Val.loadW scl136 rfl (hb90.kp hW rfl).blk (by first | omega | assumption | (simp; omega) | (simp; done))) rfl <| qd rfl rfl rfl (fun _ => Val.move rfl) rfl <| qd rfl rfl rfl (fun _ => Val.move rfl) rfl <| qd rfl rfl rfl (fun _ => Val.sindex Try.underlying9 rfl rfl (by omega) (List.getElem?_eq_getElem hkl)) rfl <| qd rfl rfl rfl (fun _ => Val.convToU32 Try.underlying5 Try.underlying136 rfl) rfl <| qd rfl rfl rfl (fun _ => Val.move rfl) rfl ?_
   refine qd rfl rfl rfl (fun _ => Val.remI rfl rfl (by first | omega | assumption | (simp; omega) | (simp; done)) (by first | omega | assumption | (simp; omega) | (simp; done))) rfl <| qd rfl rfl rfl (fun _ => Val.mulI rfl rfl (by first | omega | assumption | (simp; omega) | (simp; done)) (by first | omega | assumption | (simp; omega) | (simp; done))) rfl <| qd rfl rfl rfl (fun _ => Val.shl_u32 rfl rfl (by first | omega | assumption | (simp; omega) | (simp; done)) (by first | omega | assumption | (simp; omega) | (simp; done))) rfl <| qd rfl rfl rfl (fun _ => Val.or_u32 rfl rfl) rfl <| qd rfl rfl rfl (fun _ => Val.indexArr arr156 rfl rfl (by first | omega | assumption | (simp; omega) | (simp; done)) (by first | omega | assumption | (simp; omega) | (simp; done))) rfl ?_
   refine WD.wild rfl rfl rfl (Eff.storeW scl136 rfl rfl hb9 (by first | omega | assumption | (simp; omega) | (simp; done))) ?_
   rintro _ w6 ⟨hS, hM6⟩
   replace hO := hO.mv hM6 rfl; replace hb4 := hb4.mv hM6 rfl; replace hb8 := hb8.mv hM6 rfl; replace hb10 := hb10.mv hM6 rfl
   replace hb9 := hS
   refine WD.nil ?_
   clear hb40 hb80 hb90 hb100
   clear hCw
   refine cregion <| qq (Val.addI rfl rfl (by first | omega | assumption | (simp; omega) | (simp; done)) (by first | omega | assumption | (simp; omega) | (simp; done))) rfl <| qq (Val.move rfl) rfl <| cnil ?_
   rw [wk_step hkl] at hb9
   exact ⟨k + 1, (by repeat (first | exact Sub.nil _ | refine Sub.cons rfl ?_ | refine Sub.consM rfl ?_)), ⟨_, hO, hb4, hb8, hb9, hb10, hkl⟩, by omega⟩
  ·try simp only [tstS] at hc3
   have : k = s.length := by omega
   subst this
   have hlw := wordsS_length s
   replace hb9 : BlkC _ _ 109 b9 ((wordsS s).map W32 ++ []) dV := hb9
   refine WC.exit rfl ?_
   refine cseq <| cregion ?_
   refine WR.eff (Eff.pureC cl 1 (Eff.call pf131 rfl (begins_ok))) rfl ?_
   rintro v38 w7 ⟨c7, hM7, hx7, rfl⟩
   replace hO := hO.mv hM7 rfl; replace hb4 := hb4.mv hM7 rfl; replace hb8 := hb8.mv hM7 rfl; replace hb9 := hb9.mv hM7 rfl; replace hb10 := hb10.mv hM7 rfl
   refine WR.eff (Eff.allocC c7 112 zero137) rfl ?_
   rintro _ w8 ⟨b12, c8, rfl, hM8, hb12⟩
   replace hO := hO.mv hM8 rfl; replace hb4 := hb4.mv hM8 rfl; replace hb8 := hb8.mv hM8 rfl; replace hb9 := hb9.mv hM8 rfl; replace hb10 := hb10.mv hM8 rfl
   refine WR.eff_ (Eff.storeNC agg137 rfl rfl hb12 rfl rfl (by repeat (first | exact List.forall_mem_nil _ | refine List.forall_mem_cons.2 ⟨by first | rfl | assumption, ?_⟩))) ?_
   rintro _ w9 ⟨hS, hM9⟩
   replace hO := hO.mv hM9 rfl; replace hb4 := hb4.mv hM9 rfl; replace hb8 := hb8.mv hM9 rfl; replace hb9 := hb9.mv hM9 rfl; replace hb10 := hb10.mv hM9 rfl
   replace hb12 := hS
   refine cnil ?_
   replace hb12 := BlkC.words (l := beginsL) hb12
   refine cseq ?_
   refine WC.regionD (Kp c8 w9 [110]) [0, 0, 2] [0, 1, 2] mixed (by kernel_rfl) ?_
   have hM10 := Mv.drew c8 w9 []
   have hCw := Mv.drew c8 w9 [110]
   generalize w9.drew = w10 at hM10 hCw ⊢
   have hb40 := hb4
   have hb80 := hb8
   have hb90 := hb9
   have hb100 := hb10
   have hb120 := hb12
   replace hO := hO.mv hM10 rfl; replace hb4 := hb4.mv hM10 rfl; replace hb8 := hb8.mv hM10 rfl; replace hb9 := hb9.mv hM10 rfl; replace hb10 := hb10.mv hM10 rfl; replace hb12 := hb12.mv hM10 rfl
   refine qd rfl rfl rfl (fun _ => Val.sliceArr arr156 rfl (by decide)) rfl <| qd rfl rfl rfl (fun _ => Val.sliceArr arr137 rfl (by decide)) rfl ?_
   refine WD.eff rfl rfl rfl ((Eff.copyC sl175 rfl rfl hb10 hb4.blk.cellsAt (by simp [hl]) (by simp [hl]) (one_words _))) rfl ?_
   rintro v41 w11 ⟨c11, hM11, hb10⟩
   refine ⟨fun hC => hC.step hCw hM11 rfl, ?_⟩
   replace hCw := hCw.tr hM11 rfl
   replace hO := hO.mv hM11 rfl; replace hb4 := hb4.mv hM11 rfl; replace hb8 := hb8.mv hM11 rfl; replace hb9 := hb9.mv hM11 rfl; replace hb12 := hb12.mv hM11 rfl
   rw [copy1 hl] at hb10
   refine WD.nil ?_
   clear hb40 hb80 hb90 hb100 hb120
   clear hCw
   refine cseq ?_
   refine WC.regionD (Kp c11 w11 [110]) [0, 0, 2] [0, 1, 2] mixed (by kernel_rfl) ?_
   have hM12 := Mv.drew c11 w11 []
   have hCw := Mv.drew c11 w11 [110]
   generalize w11.drew = w12 at hM12 hCw ⊢
   have hb40 := hb4
   have hb80 := hb8
   have hb90 := hb9
   have hb100 := hb10
   have hb120 := hb12
   replace hO := hO.mv hM12 rfl; replace hb4 := hb4.mv hM12 rfl; replace hb8 := hb8.mv hM12 rfl; replace hb9 := hb9.mv hM12 rfl; replace hb10 := hb10.mv hM12 rfl; replace hb12 := hb12.mv hM12 rfl
   refine qd rfl rfl rfl (fun _ => Val.sliceArrFrom (m := 8) arr156 rfl rfl (by decide)) rfl <| qd rfl rfl rfl (fun _ => Val.sliceArr arr137 rfl (by decide)) rfl ?_
   refine WD.eff rfl rfl rfl ((Eff.copyC sl175 rfl rfl hb10 hb12.blk.cellsAt rfl (by simp [hl, beginsL]) (one_words _))) rfl ?_
   rintro v44 w13 ⟨c13, hM13, hb10⟩
   refine ⟨fun hC => hC.step hCw hM13 rfl, ?_⟩
   replace hCw := hCw.tr hM13 rfl
   replace hO := hO.mv hM13 rfl; replace hb4 := hb4.mv hM13 rfl; replace hb8 := hb8.mv hM13 rfl; replace hb9 := hb9.mv hM13 rfl; replace hb12 := hb12.mv hM13 rfl
   rw [copy2 hl] at hb10
   have hlb : beginsL.length = 8 := rfl
   have hlv : (h ++ beginsL).length = 16 := by rw [List.length_append, hl]; rfl
   refine WD.nil ?_
   clear hb40 hb80 hb90 hb100 hb120
   clear hCw
   refine cseq <| cregion <| qq (Val.indexArr arr156 rfl rfl (by first | omega | assumption | (simp; omega) | (simp; done)) (by first | omega | assumption | (simp; omega) | (simp; done))) rfl <| qq (Val.loadW scl136 rfl hb10.blk (by first | omega | assumption | (simp; omega) | (simp; done))) rfl <| qq (Val.move rfl) rfl <| qq (Val.convToU32 Try.underlying3 Try.underlying136 rfl) rfl <| qq (Val.xor_u32 rfl rfl) rfl <| qq (Val.indexArr arr156 rfl rfl (by first | omega | assumption | (simp; omega) | (simp; done)) (by first | omega | assumption | (simp; omega) | (simp; done))) rfl ?_
   refine WR.eff_ (Eff.storeW scl136 rfl rfl hb10 (by first | omega | assumption | (simp; omega) | (simp; done))) ?_
   rintro _ w14 ⟨hS, hM14⟩
   replace hO := hO.mv hM14 rfl; replace hb4 := hb4.mv hM14 rfl; replace hb8 := hb8.mv hM14 rfl; replace hb9 := hb9.mv hM14 rfl; replace hb12 := hb12.mv hM14 rfl
   replace hb10 := hS
   refine cnil <| cseq <| cregion <| qq (Val.indexArr arr156 rfl rfl (by first | omega | assumption | (simp; omega) | (simp; done)) (by first | omega | assumption | (simp; omega) | (simp; done))) rfl <| qq (Val.loadW scl136 rfl hb10.blk (by first | omega | assumption | (simp; omega) | (simp; done))) rfl <| qq (Val.move rfl) rfl <| qq (Val.shr rfl rfl (by first | omega | assumption | (simp; omega) | (simp; done)) (by simp [IntKind.bits] <;> omega)) rfl <| qq (Val.convToU32 Try.underlying3 Try.underlying136 rfl) rfl <| qq (Val.xor_u32 rfl rfl) rfl ?_
   refine qq (Val.indexArr arr156 rfl rfl (by first | omega | assumption | (simp; omega) | (simp; done)) (by first | omega | assumption | (simp; omega) | (simp; done))) rfl ?_
   refine WR.eff_ (Eff.storeW scl136 rfl rfl hb10 (by first | omega | assumption | (simp; omega) | (simp; done))) ?_
   rintro _ w15 ⟨hS, hM15⟩
   replace hO := hO.mv hM15 rfl; replace hb4 := hb4.mv hM15 rfl; replace hb8 := hb8.mv hM15 rfl; replace hb9 := hb9.mv hM15 rfl; replace hb12 := hb12.mv hM15 rfl
   replace hb10 := hS
   refine cnil ?_
   rw [show (2 : Int) ^ (32 : Int).toNat = 4294967296 by decide] at hb10
   refine cseq <| cseq <| cregion <| qq (Val.move rfl) rfl <| cnil ?_
   refine WC.mono (N := fun e w' => ∃ c', Sub [(4000000, .tuple #[]), (4, .pointer (some ⟨b4, 0, none⟩)), (8, .pointer (some ⟨b8, 0, none⟩)), (9, .pointer (some ⟨b9, 0, none⟩)), (10, .pointer (some ⟨b10, 0, none⟩))] e ∧ OldC w c' w' ∧ BlkC c' w' 104 b4 (h.map W32 ++ []) d8 ∧ BlkC c' w' 108 b8 [.int .u32 0, .int .u32 0, .int .u32 0, .int .u32 0, .int .u32 0, .int .u32 0, .int .u32 0, .int .u32 0] d8 ∧ BlkC c' w' 109 b9 ((wordsS s).map W32 ++ []) dV ∧ BlkC c' w' 110 b10 ((startV h n last).map W32 ++ []) dV) ?_ ?_
   ·refine WC.cond rfl (fun hc12 => ?_) (fun hc12 => ?_)
    ·try simp only [tstS] at hc12
     refine cregion <| qq (Val.indexArr arr156 rfl rfl (by first | omega | assumption | (simp; omega) | (simp; done)) (by first | omega | assumption | (simp; omega) | (simp; done))) rfl <| qq (Val.loadW scl136 rfl hb10.blk (by first | omega | assumption | (simp; omega) | (simp; done))) rfl <| qq (Val.un_xor rfl) rfl <| qq (Val.indexArr arr156 rfl rfl (by first | omega | assumption | (simp; omega) | (simp; done)) (by first | omega | assumption | (simp; omega) | (simp; done))) rfl ?_
     refine WR.eff_ (Eff.storeW scl136 rfl rfl hb10 (by first | omega | assumption | (simp; omega) | (simp; done))) ?_
     rintro _ w16 ⟨hS, hM16⟩
     replace hO := hO.mv hM16 rfl; replace hb4 := hb4.mv hM16 rfl; replace hb8 := hb8.mv hM16 rfl; replace hb9 := hb9.mv hM16 rfl; replace hb12 := hb12.mv hM16 rfl
     replace hb10 := hS
     refine cnil ?_
     exact ⟨_, (by repeat (first | exact Sub.nil _ | refine Sub.cons rfl ?_ | refine Sub.consM rfl ?_)), hO, hb4, hb8, hb9, by rw [startV, hc12]; exact hb10⟩
    ·try simp only [tstS] at hc12
     refine cskip ?_
     exact ⟨_, (by repeat (first | exact Sub.nil _ | refine Sub.cons rfl ?_ | refine Sub.consM rfl ?_)), hO, hb4, hb8, hb9, by rw [startV, hc12]; exact hb10⟩
   ·skip
    rintro e9 w9 ⟨c9, hsub, hO, hb4, hb8, hb9, hb10⟩
    refine WC.sub hsub ?_
    clear hsub e9
    refine cseq <| cseq <| cregion ?_
    refine WR.eff (Eff.pureC c9 1 (Eff.call pf150 rfl (orders_ok))) rfl ?_
    rintro v63 w17 ⟨c17, hM17, hx17, rfl⟩
    replace hO := hO.mv hM17 rfl; replace hb4 := hb4.mv hM17 rfl; replace hb8 := hb8.mv hM17 rfl; replace hb9 := hb9.mv hM17 rfl; replace hb10 := hb10.mv hM17 rfl
    refine qq (Val.move rfl) rfl <| cnil <| cblock ?_
    refine WC.loop (σ := Nat) (fun r => [(4, .pointer (some ⟨b4, 0, none⟩)), (8, .pointer (some ⟨b8, 0, none⟩)), (9, .pointer (some ⟨b9, 0, none⟩)), (10, .pointer (some ⟨b10, 0, none⟩)), (63, .agg rowsV.toArray), (64, I r)]) (fun r w' => ∃ c', OldC w c' w' ∧ BlkC c' w' 104 b4 (h.map W32 ++ []) d8 ∧ BlkC c' w' 108 b8 [.int .u32 0, .int .u32 0, .int .u32 0, .int .u32 0, .int .u32 0, .int .u32 0, .int .u32 0, .int .u32 0] d8 ∧ BlkC c' w' 109 b9 ((wordsS s).map W32 ++ []) dV ∧ BlkC c' w' 110 b10 ((rk (wordsS s) (startV h n last) r).map W32 ++ []) dV ∧ r ≤ 10) (fun r => 10 - r) 0 (by repeat (first | exact Sub.nil _ | refine Sub.cons rfl ?_ | refine Sub.consM rfl ?_)) ⟨_, hO, hb4, hb8, hb9, hb10, by omega⟩ ?_
    clear hO hb4 hb8 hb9 hb10
    rintro r wr ⟨cr, hO, hb4, hb8, hb9, hb10, hr⟩
    have hlr : (rk (wordsS s) (startV h n last) r).length = 16 := by rw [rk_length, startV_length hl]
    refine cseq <| cregion <| qq (Val.lss rfl rfl) rfl <| cnil <| cseq ?_
    refine WC.cond rfl (fun hc15 => ?_) (fun hc15 => ?_)
    ·try simp only [tstS] at hc15
     have hr10 : r < 10 := by omega
     obtain ⟨l, hrow, hll, hlt⟩ := row_len r hr10
     refine cskip <| cseq <| cblock <| cseq <| cregion ?_
     refine WR.val (index_row rfl rfl hr10 hrow) rfl ?_
     refine WR.eff (Eff.allocC cr 114 zero157) rfl ?_
     rintro _ w18 ⟨b14, c18, rfl, hM18, hb14⟩
     replace hO := hO.mv hM18 rfl; replace hb4 := hb4.mv hM18 rfl; replace hb8 := hb8.mv hM18 rfl; replace hb9 := hb9.mv hM18 rfl; replace hb10 := hb10.mv hM18 rfl
     refine WR.eff_ (Eff.storeNC agg157 rfl rfl hb14 rfl (by simpa using hll) (fun v hv => by obtain ⟨n, _, rfl⟩ := List.mem_map.1 hv; rfl)) ?_
     rintro _ wA ⟨hS, hMA⟩
     replace hO := hO.mv hMA rfl; replace hb4 := hb4.mv hMA rfl; replace hb8 := hb8.mv hMA rfl; replace hb9 := hb9.mv hMA rfl; replace hb10 := hb10.mv hMA rfl; replace hb14 := hS
     refine cnil <| cseq <| cregion ?_
     refine WR.eff (Eff.pureC c18 1 (Eff.call pf151 rfl (quarters_ok))) rfl ?_
     rintro v67 w19 ⟨c19, hM19, hx19, rfl⟩
     replace hO := hO.mv hM19 rfl; replace hb4 := hb4.mv hM19 rfl; replace hb8 := hb8.mv hM19 rfl; replace hb9 := hb9.mv hM19 rfl; replace hb10 := hb10.mv hM19 rfl; replace hb14 := hb14.mv hM19 rfl
     refine qq (Val.move rfl) rfl <| cnil <| cblock ?_
     generalize e0 : rk (wordsS s) (startV h n last) r = V0 at hb10 hlr
     refine WC.loop (σ := Nat) (fun i => [(4, .pointer (some ⟨b4, 0, none⟩)), (8, .pointer (some ⟨b8, 0, none⟩)), (9, .pointer (some ⟨b9, 0, none⟩)), (10, .pointer (some ⟨b10, 0, none⟩)), (14, .pointer (some ⟨b14, 0, none⟩)), (63, .agg rowsV.toArray), (64, I r), (67, .agg quartV.toArray), (68, I i)]) (fun i w' => ∃ c', OldC w c' w' ∧ BlkC c' w' 104 b4 (h.map W32 ++ []) d8 ∧ BlkC c' w' 108 b8 [.int .u32 0, .int .u32 0, .int .u32 0, .int .u32 0, .int .u32 0, .int .u32 0, .int .u32 0, .int .u32 0] d8 ∧ BlkC c' w' 109 b9 ((wordsS s).map W32 ++ []) dV ∧ BlkC c' w' 110 b10 ((ik (wordsS s) r V0 i).map W32 ++ []) dV ∧ BlkC c' w' 114 b14 (l.map fun n => I ((n : Nat) : Int)) 157 ∧ i ≤ 8) (fun i => 8 - i) 0 (by repeat (first | exact Sub.nil _ | refine Sub.cons rfl ?_ | refine Sub.consM rfl ?_)) ⟨_, hO, hb4, hb8, hb9, hb10, hb14, by omega⟩ ?_
     clear hO hb4 hb8 hb9 hb10 hb14
     rintro i wi ⟨ci, hO, hb4, hb8, hb9, hb10, hb14, hi⟩
     have hli : (ik (wordsS s) r V0 i).length = 16 := by rw [ik_length, hlr]
     refine cseq <| cregion <| qq (Val.lss rfl rfl) rfl <| cnil <| cseq ?_
     refine WC.cond rfl (fun hc18 => ?_) (fun hc18 => ?_)
     ·try simp only [tstS] at hc18
      have hi8 : i < 8 := by omega
      obtain ⟨q0, q1, q2, q3, hq, hq0, hq1, hq2, hq3⟩ := quart_form i hi8
      have g1 := hlt (2 * (i : Int)).toNat; have g2' := hlt (2 * (i : Int) + 1).toNat
      refine cskip <| cseq <| cblock <| cseq <| cregion <| qq (Val.move rfl) rfl ?_
      refine WR.val (index_quart rfl rfl hi8 hq) rfl ?_
      refine WR.eff (Eff.allocC ci 116 zero176) rfl ?_
      rintro _ w20 ⟨b16, c20, rfl, hM20, hb16⟩
      replace hO := hO.mv hM20 rfl; replace hb4 := hb4.mv hM20 rfl; replace hb8 := hb8.mv hM20 rfl; replace hb9 := hb9.mv hM20 rfl; replace hb10 := hb10.mv hM20 rfl; replace hb14 := hb14.mv hM20 rfl
      refine qq (Val.assign rfl) rfl ?_
      refine WR.eff_ (Eff.storeNC agg176 rfl rfl hb16 rfl rfl (by repeat (first | exact List.forall_mem_nil _ | refine List.forall_mem_cons.2 ⟨by first | rfl | assumption, ?_⟩))) ?_
      rintro _ w21 ⟨hS, hM21⟩
      replace hO := hO.mv hM21 rfl; replace hb4 := hb4.mv hM21 rfl; replace hb8 := hb8.mv hM21 rfl; replace hb9 := hb9.mv hM21 rfl; replace hb10 := hb10.mv hM21 rfl; replace hb14 := hb14.mv hM21 rfl
      replace hb16 := hS
      refine cnil ?_
      refine WC.regionD (Kp c20 w21 [110]) [1, 0, 0, 0, 1, 0, 1, 0, 0, 0, 0, 1, 0, 1, 2] [0, 1, 2, 3, 4, 5, 6, 7, 8, 9, 10, 11, 12, 13, 14] mixed (by kernel_rfl) ?_
      have hM22 := Mv.drew c20 w21 []
      have hCw := Mv.drew c20 w21 [110]
      generalize w21.drew = w22 at hM22 hCw ⊢
      have hb40 := hb4
      have hb80 := hb8
      have hb90 := hb9
      have hb100 := hb10
      have hb140 := hb14
      have hb160 := hb16
      replace hO := hO.mv hM22 rfl; replace hb4 := hb4.mv hM22 rfl; replace hb8 := hb8.mv hM22 rfl; replace hb9 := hb9.mv hM22 rfl; replace hb10 := hb10.mv hM22 rfl; replace hb14 := hb14.mv hM22 rfl; replace hb16 := hb16.mv hM22 rfl
      refine qc rfl rfl rfl hCw.kp (fun W hW => Val.loadBN agg176 rfl (hb160.kp hW rfl).blk rfl) rfl <| qd rfl rfl rfl (fun _ => Val.move rfl) rfl <| qd rfl rfl rfl (fun _ => Val.mulI rfl rfl (by first | omega | assumption | (simp; omega) | (simp; done)) (by first | omega | assumption | (simp; omega) | (simp; done))) rfl <| qd rfl rfl rfl (fun _ => Val.indexArr arr157 rfl rfl (by first | omega | assumption | (simp; omega) | (simp; done)) (by first | omega | assumption | (simp; omega) | (simp; done))) rfl <| qc rfl rfl rfl hCw.kp (fun W hW => load_nat (hb140.kp hW rfl).blk rfl (by omega)) rfl <| qd rfl rfl rfl (fun _ => Val.indexArr arr156 rfl rfl (by first | omega | assumption | (simp; omega) | (simp; done)) (by first | omega | assumption | (simp; omega) | (simp; done))) rfl <| qc rfl rfl rfl hCw.kp (fun W hW => Val.loadW scl136 rfl (hb90.kp hW rfl).blk (by first | omega | assumption | (simp; omega) | (simp; done))) rfl <| qd rfl rfl rfl (fun _ => Val.move rfl) rfl <| qd rfl rfl rfl (fun _ => Val.mulI rfl rfl (by first | omega | assumption | (simp; omega) | (simp; done)) (by first | omega | assumption | (simp; omega) | (simp; done))) rfl ?_
      refine qd rfl rfl rfl (fun _ => Val.addI rfl rfl (by first | omega | assumption | (simp; omega) | (simp; done)) (by first | omega | assumption | (simp; omega) | (simp; done))) rfl <| qd rfl rfl rfl (fun _ => Val.indexArr arr157 rfl rfl (by first | omega | assumption | (simp; omega) | (simp; done)) (by first | omega | assumption | (simp; omega) | (simp; done))) rfl <| qc rfl rfl rfl hCw.kp (fun W hW => load_nat (hb140.kp hW rfl).blk rfl (by omega)) rfl <| qd rfl rfl rfl (fun _ => Val.indexArr arr156 rfl rfl (by first | omega | assumption | (simp; omega) | (simp; done)) (by first | omega | assumption | (simp; omega) | (simp; done))) rfl <| qc rfl rfl rfl hCw.kp (fun W hW => Val.loadW scl136 rfl (hb90.kp hW rfl).blk (by first | omega | assumption | (simp; omega) | (simp; done))) rfl ?_
      refine WD.eff rfl rfl rfl (Eff.turnC hb10 (Eff.call pf152 rfl (mix_ok hb10.blk hli q0 q1 q2 q3 hq0 hq1 hq2 hq3 _ _))) rfl ?_
      rintro v86 w23 ⟨c23, hM23, hb10⟩
      refine ⟨fun hC => hC.step hCw hM23 rfl, ?_⟩
      replace hCw := hCw.tr hM23 rfl
      replace hO := hO.mv hM23 rfl; replace hb4 := hb4.mv hM23 rfl; replace hb8 := hb8.mv hM23 rfl; replace hb9 := hb9.mv hM23 rfl; replace hb14 := hb14.mv hM23 rfl; replace hb16 := hb16.mv hM23 rfl
      refine WD.nil ?_
      clear hb40 hb80 hb90 hb100 hb140 hb160
      clear hCw
      refine cregion <| qq (Val.addI rfl rfl (by first | omega | assumption | (simp; omega) | (simp; done)) (by first | omega | assumption | (simp; omega) | (simp; done))) rfl <| qq (Val.move rfl) rfl <| cnil ?_
      simp only [Int.toNat_natCast, show (2 * (i : Int)).toNat = 2 * i by omega, show (2 * (i : Int) + 1).toNat = 2 * i + 1 by omega] at hb10
      rw [← round_eq hrow hq, ← ik_succ] at hb10
      exact ⟨i + 1, (by repeat (first | exact Sub.nil _ | refine Sub.cons rfl ?_ | refine Sub.consM rfl ?_)), ⟨_, hO, hb4, hb8, hb9, hb10, hb14, by omega⟩, by omega⟩
     ·try simp only [tstS] at hc18
      have : i = 8 := by omega
      subst this
      have e9 : ik (wordsS s) r V0 8 = rk (wordsS s) (startV h n last) (r + 1) := by rw [rk_succ, e0]; rfl
      rw [e9] at hb10
      refine WC.exit rfl ?_
      refine cregion <| qq (Val.addI rfl rfl (by first | omega | assumption | (simp; omega) | (simp; done)) (by first | omega | assumption | (simp; omega) | (simp; done))) rfl <| qq (Val.move rfl) rfl <| cnil ?_
      exact ⟨r + 1, (by repeat (first | exact Sub.nil _ | refine Sub.cons rfl ?_ | refine Sub.consM rfl ?_)), ⟨_, hO, hb4, hb8, hb9, hb10, by omega⟩, by omega⟩
    ·try simp only [tstS] at hc15
     have : r = 10 := by omega
     subst this
     refine WC.exit rfl ?_
     refine cseq <| cseq <| cregion <| qq (Val.move rfl) rfl <| cnil <| cblock ?_
     refine WC.loop (σ := Nat) (fun k => [(4, .pointer (some ⟨b4, 0, none⟩)), (8, .pointer (some ⟨b8, 0, none⟩)), (10, .pointer (some ⟨b10, 0, none⟩)), (89, I k)]) (fun k w' => ∃ c', OldC w c' w' ∧ BlkC c' w' 104 b4 ((hcp h (rk (wordsS s) (startV h n last) 10) k).map W32 ++ []) d8 ∧ BlkC c' w' 108 b8 [.int .u32 0, .int .u32 0, .int .u32 0, .int .u32 0, .int .u32 0, .int .u32 0, .int .u32 0, .int .u32 0] d8 ∧ BlkC c' w' 110 b10 ((rk (wordsS s) (startV h n last) 10).map W32 ++ []) dV ∧ k ≤ 8) (fun k => 8 - k) 0 (by repeat (first | exact Sub.nil _ | refine Sub.cons rfl ?_ | refine Sub.consM rfl ?_)) ⟨_, hO, hb4, hb8, hb10, by omega⟩ ?_
     clear hO hb4 hb8 hb9 hb10
     rintro k wk' ⟨ck, hO, hb4, hb8, hb10, hk⟩
     have hlh : (hcp h (rk (wordsS s) (startV h n last) 10) k).length = 8 := by rw [hcp_eq, hck_length, hl]
     refine cseq <| cregion <| qq (Val.lss rfl rfl) rfl <| cnil <| cseq ?_
     refine WC.cond rfl (fun hc24 => ?_) (fun hc24 => ?_)
     ·try simp only [tstS] at hc24
      have hk8 : k < 8 := by omega
      refine cskip <| cseq <| cblock <| cseq <| cregion <| qq (Val.move rfl) rfl <| qq (Val.assign rfl) rfl <| cnil ?_
      refine WC.regionD (Kp ck wk' []) [0, 0, 1, 0, 0, 1, 0, 0, 0, 1, 0, 0, 0, 3] [0, 1, 2, 3, 4, 5, 6, 7, 8, 9, 10, 11, 12, 13] mixed (by kernel_rfl) ?_
      have hM24 := Mv.drew ck wk' []
      have hCw := Mv.drew ck wk' []
      generalize wk'.drew = w24 at hM24 hCw ⊢
      have hb40 := hb4
      have hb80 := hb8
      have hb100 := hb10
      replace hO := hO.mv hM24 rfl; replace hb4 := hb4.mv hM24 rfl; replace hb8 := hb8.mv hM24 rfl; replace hb10 := hb10.mv hM24 rfl
      refine qd rfl rfl rfl (fun _ => Val.move rfl) rfl <| qd rfl rfl rfl (fun _ => Val.indexArr arr137 rfl rfl (by first | omega | assumption | (simp; omega) | (simp; done)) (by first | omega | assumption | (simp; omega) | (simp; done))) rfl <| qc rfl rfl rfl hCw.kp (fun W hW => Val.loadW scl136 rfl (hb40.kp hW rfl).blk (by first | omega | assumption | (simp; omega) | (simp; done))) rfl <| qd rfl rfl rfl (fun _ => Val.move rfl) rfl <| qd rfl rfl rfl (fun _ => Val.indexArr arr156 rfl rfl (by first | omega | assumption | (simp; omega) | (simp; done)) (by first | omega | assumption | (simp; omega) | (simp; done))) rfl <| qc rfl rfl rfl hCw.kp (fun W hW => Val.loadW scl136 rfl (hb100.kp hW rfl).blk (by first | omega | assumption | (simp; omega) | (simp; done))) rfl <| qd rfl rfl rfl (fun _ => Val.move rfl) rfl <| qd rfl rfl rfl (fun _ => Val.addI rfl rfl (by first | omega | assumption | (simp; omega) | (simp; done)) (by first | omega | assumption | (simp; omega) | (simp; done))) rfl <| qd rfl rfl rfl (fun _ => Val.indexArr arr156 rfl rfl (by first | omega | assumption | (simp; omega) | (simp; done)) (by first | omega | assumption | (simp; omega) | (simp; done))) rfl ?_
      refine qc rfl rfl rfl hCw.kp (fun W hW => Val.loadW scl136 rfl (hb100.kp hW rfl).blk (by first | omega | assumption | (simp; omega) | (simp; done))) rfl <| qd rfl rfl rfl (fun _ => Val.xor_u32 rfl rfl) rfl <| qd rfl rfl rfl (fun _ => Val.xor_u32 rfl rfl) rfl <| qd rfl rfl rfl (fun _ => Val.indexArr arr137 rfl rfl (by first | omega | assumption | (simp; omega) | (simp; done)) (by first | omega | assumption | (simp; omega) | (simp; done))) rfl ?_
      refine WD.wild rfl rfl rfl (Eff.storeW scl136 rfl rfl hb4 (by first | omega | assumption | (simp; omega) | (simp; done))) ?_
      rintro _ w25 ⟨hS, hM25⟩
      replace hO := hO.mv hM25 rfl; replace hb8 := hb8.mv hM25 rfl; replace hb10 := hb10.mv hM25 rfl
      replace hb4 := hS
      refine WD.nil ?_
      clear hb40 hb80 hb100
      clear hCw
      refine cregion <| qq (Val.addI rfl rfl (by first | omega | assumption | (simp; omega) | (simp; done)) (by first | omega | assumption | (simp; omega) | (simp; done))) rfl <| qq (Val.move rfl) rfl <| cnil ?_
      simp only [Int.toNat_natCast, show ((k : Int) + 8).toNat = k + 8 by omega] at hb4
      rw [← hcp_succ] at hb4
      exact ⟨k + 1, (by repeat (first | exact Sub.nil _ | refine Sub.cons rfl ?_ | refine Sub.consM rfl ?_)), ⟨_, hO, hb4, hb8, hb10, by omega⟩, by omega⟩
     ·try simp only [tstS] at hc24
      have : k = 8 := by omega
      subst this
      rw [hcp_eq, hck_eight hl] at hb4
      refine WC.exit rfl ?_
      refine cseq <| cregion <| qq (Val.loadBN agg137 rfl hb4.blk rfl) rfl ?_
      refine WR.eff_ (Eff.storeNC agg137 rfl rfl hb8 rfl rfl (one_words _)) ?_
      rintro _ wA ⟨hS, hMA⟩
      replace hO := hO.mv hMA rfl; replace hb8 := hS
      refine cnil ?_
      refine WC.retR1 rfl (RVal.cellN agg137 rfl hb8.blk rfl) ?_
      exact ⟨hO.below, by rw [List.append_nil]; rfl⟩
end Go.Proofs.Ytnddlhjafkhdoaa

namespace Go.Proofs
open Go.Shelf
def Try.lays170_ren : Go.Shelf.Ren := ⟨fun | 170 => 145 | n => n, fun | 70 => 168 | 3 => 3 | 0 => 0 | 72 => 170 | 37 => 68 | 5 => 5 | n => n, fun | n => n⟩
theorem Try.lays170 : Go.Proofs.Lays.n170 Try.prog Try.lays170_ren := {
  mixed := by kernel_rfl
  f170 := Try.func145.trans (congrArg some (by kernel_rfl))
  t0 := Try.underlying0
  a0 := Try.isAgg0
  z0 := Try.sizeOf0
  v0 := Try.zeroValue0
  t3 := Try.underlying3
  a3 := Try.isAgg3
  z3 := Try.sizeOf3
  v3 := Try.zeroValue3
  t37 := Try.underlying68
  a37 := Try.isAgg68
  z37 := Try.sizeOf68
  v37 := Try.zeroValue68
  t70 := Try.underlying168
  a70 := Try.isAgg168
  z70 := Try.sizeOf168
  v70 := Try.zeroValue168
  t72 := Try.underlying170
  a72 := Try.isAgg170
  z72 := Try.sizeOf170
  v72 := Try.zeroValue170 }
open Go.RowKit in
/-- (*strings.Builder).Len: "Len returns the number of accumulated bytes; b.Len() == len(b.String()).": the world is as it was. (LAID: no walk: one application.) -/
theorem Try.Builder_Len (B b : Nat) (bs : List Value) (w : World) (h : Lib.IsBuilder 170 5 B b bs w) :
    Calls Try.prog 145 #[.pointer (some ⟨b, 0, none⟩)] w fun e w' => e = .returned (.int .i64 bs.length) ∧ w' = w := Any.Builder_Len Try.lays170 B b bs w h
def Try.lays169_ren : Go.Shelf.Ren := ⟨fun | 169 => 146 | n => n, fun | 70 => 168 | 9 => 9 | 0 => 0 | 72 => 170 | 37 => 68 | 127 => 194 | 3 => 3 | 5 => 5 | n => n, fun | n => n⟩
theorem Try.lays169 : Go.Proofs.Lays.n169 Try.prog Try.lays169_ren := {
  mixed := by kernel_rfl
  f169 := Try.func146.trans (congrArg some (by kernel_rfl))
  t0 := Try.underlying0
  a0 := Try.isAgg0
  z0 := Try.sizeOf0
  v0 := Try.zeroValue0
  t3 := Try.underlying3
  a3 := Try.isAgg3
  z3 := Try.sizeOf3
  v3 := Try.zeroValue3
  t9 := Try.underlying9
  a9 := Try.isAgg9
  z9 := Try.sizeOf9
  v9 := Try.zeroValue9
  t37 := Try.underlying68
  a37 := Try.isAgg68
  z37 := Try.sizeOf68
  v37 := Try.zeroValue68
  t70 := Try.underlying168
  a70 := Try.isAgg168
  z70 := Try.sizeOf168
  v70 := Try.zeroValue168
  t72 := Try.underlying170
  a72 := Try.isAgg170
  z72 := Try.sizeOf170
  v72 := Try.zeroValue170
  t127 := Try.underlying194
  a127 := Try.isAgg194
  z127 := Try.sizeOf194
  v127 := Try.zeroValue194 }
theorem Try.Builder_Extra_169 : Builder.Extra Try.prog Try.lays169_ren := {
  sizeBuilder := by kernel_rfl
  liesBuilder := by kernel_rfl
  t5 := Try.underlying5
  a5 := Try.isAgg5
  z5 := Try.sizeOf5
  v5 := Try.zeroValue5
  infoByte := by kernel_rfl
  cellsByte := by kernel_rfl
  sizeByte := by kernel_rfl
  neB5 := by decide }
open Go.RowKit in
/-- (*strings.Builder).String: "String returns the accumulated string.": OF A BUILDER THAT HOLDS AT LEAST ONE BYTE. ✋ THE MODEL FREEZES THOSE BYTES IN THE BUFFER (unsafe.String): a later write INTO them ends the model's run without an answer; a later append BEHIND them goes on. The statement's order of evaluation is drawn: one draw. (LAID: no walk: one application.) -/
theorem Try.Builder_String (B b : Nat) (l : List UInt8) (w : World) (h : Lib.IsBuilder 170 5 B b (Lib.byteCells l) w) (h0 : l ≠ []) :
    Calls Try.prog 146 #[.pointer (some ⟨b, 0, none⟩)] w fun e w' => e = .returned (.string ⟨l.toArray⟩) ∧ Below B w w' := Any.Builder_String Try.lays169 Try.Builder_Extra_169 B b l w h h0
open Go.RowKit in
/-- (*strings.Builder).String OF A BUILDER THAT HOLDS NO BYTE: the empty string. (Its buffer is nil, or a row of which it has taken nothing yet; where that row has NO capacity the model lays one new block for unsafe.SliceData's 'some address'.) One draw. (LAID: no walk: one application.) -/
theorem Try.Builder_String_empty (B b : Nat) (w : World) (h : Lib.IsBuilder 170 5 B b [] w) (hBw : B ≤ w.heap.size) :
    Calls Try.prog 146 #[.pointer (some ⟨b, 0, none⟩)] w fun e w' => e = .returned (.string ⟨#[]⟩) ∧ Below B w w' := Any.Builder_String_empty Try.lays169 Try.Builder_Extra_169 B b w h hBw
open Go.RowKit in
/-- (*strings.Builder).String: "String returns the accumulated string.": WHATEVER THE BUILDER HOLDS. (LAID: no walk: one application.) -/
theorem Try.Builder_String_any (B b : Nat) (l : List UInt8) (w : World) (h : Lib.IsBuilder 170 5 B b (Lib.byteCells l) w) (hBw : B ≤ w.heap.size) :
    Calls Try.prog 146 #[.pointer (some ⟨b, 0, none⟩)] w fun e w' => e = .returned (.string ⟨l.toArray⟩) ∧ Below B w w' := Any.Builder_String_any Try.lays169 Try.Builder_Extra_169 B b l w h hBw
def Try.lays241_ren : Go.Shelf.Ren := ⟨fun | 241 => 171 | 277 => 182 | n => n, fun | 70 => 168 | 3 => 3 | 0 => 0 | 72 => 170 | 37 => 68 | 5 => 5 | n => n, fun | n => n⟩
theorem Try.lays241 : Go.Proofs.Lays.n241 Try.prog Try.lays241_ren := {
  mixed := by kernel_rfl
  f241 := Try.func171.trans (congrArg some (by kernel_rfl))
  f277 := Try.func182.trans (congrArg some (by kernel_rfl))
  t0 := Try.underlying0
  a0 := Try.isAgg0
  z0 := Try.sizeOf0
  v0 := Try.zeroValue0
  t3 := Try.underlying3
  a3 := Try.isAgg3
  z3 := Try.sizeOf3
  v3 := Try.zeroValue3
  t37 := Try.underlying68
  a37 := Try.isAgg68
  z37 := Try.sizeOf68
  v37 := Try.zeroValue68
  t70 := Try.underlying168
  a70 := Try.isAgg168
  z70 := Try.sizeOf168
  v70 := Try.zeroValue168
  t72 := Try.underlying170
  a72 := Try.isAgg170
  z72 := Try.sizeOf170
  v72 := Try.zeroValue170 }
theorem Try.Builder_Extra_241 : Builder.Extra Try.prog Try.lays241_ren := {
  sizeBuilder := by kernel_rfl
  liesBuilder := by kernel_rfl
  t5 := Try.underlying5
  a5 := Try.isAgg5
  z5 := Try.sizeOf5
  v5 := Try.zeroValue5
  infoByte := by kernel_rfl
  cellsByte := by kernel_rfl
  sizeByte := by kernel_rfl
  neB5 := by decide }
open Go.RowKit in
/-- (*strings.Builder).grow (no doc but "grow copies the buffer to a new, larger buffer so that there are at least n bytes of capacity beyond len(b.buf)."): AT A BUILDER WITHOUT A BUFFER: a new row of whatever bytes for its buffer, none of them its own yet. Three draws. (LAID: no walk: one application.) -/
theorem Try.Builder_grow_fresh (B b n : Nat) (w : World) (hB : B ≤ b) (hbk : w.heap[b]? = some (.cells #[.pointer (some ⟨b, 0, none⟩), .slice none 0 0] 170 (0, 0))) (hBw : B ≤ w.heap.size) (hn : n ≤ 281474976710656) :
    Calls Try.prog 171 #[.pointer (some ⟨b, 0, none⟩), .int .i64 n] w fun e w' => e = .returned (.tuple #[]) ∧ (Lib.BuilderAt 170 5 B b (.pointer (some ⟨b, 0, none⟩)) [] w' ∧ Below B w w') := Any.Builder_grow_fresh Try.lays241 Try.Builder_Extra_241 B b n w hB hbk hBw hn
def Try.lays165_ren : Go.Shelf.Ren := ⟨fun | 165 => 143 | 240 => 170 | 241 => 171 | 276 => 181 | 277 => 182 | n => n, fun | 70 => 168 | 3 => 3 | 0 => 0 | 4 => 4 | 9 => 9 | 20 => 20 | 72 => 170 | 37 => 68 | 164 => 204 | 5 => 5 | n => n, fun | n => n⟩
theorem Try.lays165 : Go.Proofs.Lays.n165 Try.prog Try.lays165_ren := {
  mixed := by kernel_rfl
  f165 := Try.func143.trans (congrArg some (by kernel_rfl))
  f240 := Try.func170.trans (congrArg some (by kernel_rfl))
  f241 := Try.func171.trans (congrArg some (by kernel_rfl))
  f276 := Try.func181.trans (congrArg some (by kernel_rfl))
  f277 := Try.func182.trans (congrArg some (by kernel_rfl))
  t0 := Try.underlying0
  a0 := Try.isAgg0
  z0 := Try.sizeOf0
  v0 := Try.zeroValue0
  t3 := Try.underlying3
  a3 := Try.isAgg3
  z3 := Try.sizeOf3
  v3 := Try.zeroValue3
  t4 := Try.underlying4
  a4 := Try.isAgg4
  z4 := Try.sizeOf4
  v4 := Try.zeroValue4
  t9 := Try.underlying9
  a9 := Try.isAgg9
  z9 := Try.sizeOf9
  v9 := Try.zeroValue9
  t20 := Try.underlying20
  a20 := Try.isAgg20
  z20 := Try.sizeOf20
  v20 := Try.zeroValue20
  t37 := Try.underlying68
  a37 := Try.isAgg68
  z37 := Try.sizeOf68
  v37 := Try.zeroValue68
  t70 := Try.underlying168
  a70 := Try.isAgg168
  z70 := Try.sizeOf168
  v70 := Try.zeroValue168
  t72 := Try.underlying170
  a72 := Try.isAgg170
  z72 := Try.sizeOf170
  v72 := Try.zeroValue170
  t164 := Try.underlying204
  a164 := Try.isAgg204
  z164 := Try.sizeOf204
  v164 := Try.zeroValue204 }
theorem Try.Builder_Extra_165 : Builder.Extra Try.prog Try.lays165_ren := {
  sizeBuilder := by kernel_rfl
  liesBuilder := by kernel_rfl
  t5 := Try.underlying5
  a5 := Try.isAgg5
  z5 := Try.sizeOf5
  v5 := Try.zeroValue5
  infoByte := by kernel_rfl
  cellsByte := by kernel_rfl
  sizeByte := by kernel_rfl
  neB5 := by decide }
open Go.RowKit in
/-- (*strings.Builder).Grow AT A BUILDER THAT HAS NOT BEEN WRITTEN ('var b strings.Builder; b.Grow(n)'): "Grow grows b's capacity, if necessary, to guarantee space for another n bytes.": it holds no byte behind it as before it. (LAID: no walk: one application.) -/
theorem Try.Builder_Grow_fresh (B b n : Nat) (w : World) (hB : B ≤ b) (hbk : w.heap[b]? = some (.cells #[.pointer none, .slice none 0 0] 170 (0, 0))) (hBw : B ≤ w.heap.size) (hn : n ≤ 281474976710656) :
    Calls Try.prog 143 #[.pointer (some ⟨b, 0, none⟩), .int .i64 n] w fun e w' => e = .returned (.tuple #[]) ∧ (Lib.BuilderAt 170 5 B b (.pointer (some ⟨b, 0, none⟩)) [] w' ∧ Below B w w') := Any.Builder_Grow_fresh Try.lays165 Try.Builder_Extra_165 B b n w hB hbk hBw hn
def Try.lays128_ren : Go.Shelf.Ren := ⟨fun | 128 => 164 | n => n, fun | 51 => 136 | 3 => 3 | 4 => 4 | 46 => 109 | 5 => 5 | 9 => 9 | n => n, fun | n => n⟩
theorem Try.lays128 : Go.Proofs.Lays.n128 Try.prog Try.lays128_ren := {
  mixed := by kernel_rfl
  f128 := Try.func164.trans (congrArg some (by kernel_rfl))
  t3 := Try.underlying3
  a3 := Try.isAgg3
  z3 := Try.sizeOf3
  v3 := Try.zeroValue3
  t4 := Try.underlying4
  a4 := Try.isAgg4
  z4 := Try.sizeOf4
  v4 := Try.zeroValue4
  t5 := Try.underlying5
  a5 := Try.isAgg5
  z5 := Try.sizeOf5
  v5 := Try.zeroValue5
  t9 := Try.underlying9
  a9 := Try.isAgg9
  z9 := Try.sizeOf9
  v9 := Try.zeroValue9
  t46 := Try.underlying109
  a46 := Try.isAgg109
  z46 := Try.sizeOf109
  v46 := Try.zeroValue109
  t51 := Try.underlying136
  a51 := Try.isAgg136
  z51 := Try.sizeOf136
  v51 := Try.zeroValue136 }
/-- bits.Len32: "Len32 returns the minimum number of bits required to represent x; the result is 0 for x == 0.": IT RETURNS 'Lib.bitLen x'; the world is as it was. ('h0', 'h1': x is a uint32.) (LAID: no walk: one application.) -/
theorem Try.bits_Len32 (x : Int) (w : World) (h0 : 0 ≤ x) (h1 : x ≤ 4294967295) :
    Calls Try.prog 164 #[.int .u32 x] w fun e w' => e = .returned (.int .i64 (Lib.bitLen x.toNat)) ∧ w' = w := Any.bits_Len32 Try.lays128 x w h0 h1
def Try.lays125_ren : Go.Shelf.Ren := ⟨fun | 125 => 137 | 128 => 164 | 129 => 165 | n => n, fun | 46 => 109 | 3 => 3 | 51 => 136 | 53 => 141 | 4 => 4 | 5 => 5 | 9 => 9 | n => n, fun | n => n⟩
theorem Try.lays125 : Go.Proofs.Lays.n125 Try.prog Try.lays125_ren := {
  mixed := by kernel_rfl
  f125 := Try.func137.trans (congrArg some (by kernel_rfl))
  f128 := Try.func164.trans (congrArg some (by kernel_rfl))
  f129 := Try.func165.trans (congrArg some (by kernel_rfl))
  t3 := Try.underlying3
  a3 := Try.isAgg3
  z3 := Try.sizeOf3
  v3 := Try.zeroValue3
  t4 := Try.underlying4
  a4 := Try.isAgg4
  z4 := Try.sizeOf4
  v4 := Try.zeroValue4
  t5 := Try.underlying5
  a5 := Try.isAgg5
  z5 := Try.sizeOf5
  v5 := Try.zeroValue5
  t9 := Try.underlying9
  a9 := Try.isAgg9
  z9 := Try.sizeOf9
  v9 := Try.zeroValue9
  t46 := Try.underlying109
  a46 := Try.isAgg109
  z46 := Try.sizeOf109
  v46 := Try.zeroValue109
  t51 := Try.underlying136
  a51 := Try.isAgg136
  z51 := Try.sizeOf136
  v51 := Try.zeroValue136
  t53 := Try.underlying141
  a53 := Try.isAgg141
  z53 := Try.sizeOf141
  v53 := Try.zeroValue141 }
/-- bits.Len: "Len returns the minimum number of bits required to represent x; the result is 0 for x == 0.": IT RETURNS 'Lib.bitLen x'; the world is as it was. (A uint has 64 bits in the model.) ITS CALLEE bits.Len64 IS MET BY ITS OWN CONTRACT OFF THE SHELF (lay that first). (LAID: no walk: one application.) -/
theorem Try.bits_Len (x : Int) (w : World) (h0 : 0 ≤ x) (h1 : x ≤ 18446744073709551615) :
    Calls Try.prog 137 #[.int .u64 x] w fun e w' => e = .returned (.int .i64 (Lib.bitLen x.toNat)) ∧ w' = w := Any.bits_Len Try.lays125 x w h0 h1
def Try.lays213_ren : Go.Shelf.Ren := ⟨fun | 213 => 139 | 265 => 166 | n => n, fun | 9 => 9 | 3 => 3 | n => n, fun | n => n⟩
theorem Try.lays213 : Go.Proofs.Lays.n213 Try.prog Try.lays213_ren := {
  mixed := by kernel_rfl
  f213 := Try.func139.trans (congrArg some (by kernel_rfl))
  f265 := Try.func166.trans (congrArg some (by kernel_rfl))
  t3 := Try.underlying3
  a3 := Try.isAgg3
  z3 := Try.sizeOf3
  v3 := Try.zeroValue3
  t9 := Try.underlying9
  a9 := Try.isAgg9
  z9 := Try.sizeOf9
  v9 := Try.zeroValue9 }
open Go.RowKit in
/-- internal/bytealg.CompareString (what strings.Compare calls): IT RETURNS 'Lib.compareBytes a b'; the world is as it was. (LAID: no walk: one application.) -/
theorem Try.bytealg_CompareString (a b : ByteArray) (w : World) :
    Calls Try.prog 139 #[.string a, .string b] w fun e w' => e = .returned (.int .i64 (Lib.compareBytes a.data.toList b.data.toList)) ∧ w' = w := Any.bytealg_CompareString Try.lays213 a b w
def Try.lays106_ren : Go.Shelf.Ren := ⟨fun | 106 => 122 | 213 => 139 | 265 => 166 | n => n, fun | 9 => 9 | 3 => 3 | n => n, fun | n => n⟩
theorem Try.lays106 : Go.Proofs.Lays.n106 Try.prog Try.lays106_ren := {
  mixed := by kernel_rfl
  f106 := Try.func122.trans (congrArg some (by kernel_rfl))
  f213 := Try.func139.trans (congrArg some (by kernel_rfl))
  f265 := Try.func166.trans (congrArg some (by kernel_rfl))
  t3 := Try.underlying3
  a3 := Try.isAgg3
  z3 := Try.sizeOf3
  v3 := Try.zeroValue3
  t9 := Try.underlying9
  a9 := Try.isAgg9
  z9 := Try.sizeOf9
  v9 := Try.zeroValue9 }
open Go.RowKit in
/-- strings.Compare: "Compare returns an integer comparing two strings lexicographically. The result will be 0 if a == b, -1 if a < b, and +1 if a > b.": IT RETURNS 'Lib.compareBytes a b'; the world is as it was. (LAID: no walk: one application.) -/
theorem Try.strings_Compare (a b : ByteArray) (w : World) :
    Calls Try.prog 122 #[.string a, .string b] w fun e w' => e = .returned (.int .i64 (Lib.compareBytes a.data.toList b.data.toList)) ∧ w' = w := Any.strings_Compare Try.lays106 a b w
def Try.lays215_ren : Go.Shelf.Ren := ⟨fun | 215 => 196 | n => n, fun | 3 => 3 | 4 => 4 | n => n, fun | n => n⟩
theorem Try.lays215 : Go.Proofs.Lays.n215 Try.prog Try.lays215_ren := {
  mixed := by kernel_rfl
  f215 := Try.func196.trans (congrArg some (by kernel_rfl))
  t3 := Try.underlying3
  a3 := Try.isAgg3
  z3 := Try.sizeOf3
  v3 := Try.zeroValue3
  t4 := Try.underlying4
  a4 := Try.isAgg4
  z4 := Try.sizeOf4
  v4 := Try.zeroValue4 }
open Go.RowKit in
/-- cmp.isNaN at int: 'x != x': false. (LAID: no walk: one application.) -/
theorem Try.cmp_isNaN_int (x : Int) (w : World) :
    Calls Try.prog 196 #[.int .i64 x] w fun e w' => e = .returned (.bool false) ∧ w' = w := Any.cmp_isNaN_int Try.lays215 x w
open Go.RowKit in
/-- (*strings.Builder).Len: "Len returns the number of accumulated bytes; b.Len() == len(b.String()).": the world is as it was. (THE FORM '_f': 'Lib.IsBuilderF'.) (LAID: no walk: one application.) -/
theorem Try.Builder_Len_f (B b : Nat) (bs : List Value) (w : World) (h : Lib.IsBuilderF 170 5 B b bs w) :
    Calls Try.prog 145 #[.pointer (some ⟨b, 0, none⟩)] w fun e w' => e = .returned (.int .i64 bs.length) ∧ w' = w := Any.Builder_Len_f Try.lays170 B b bs w h
open Go.RowKit in
/-- (*strings.Builder).String: "String returns the accumulated string.": OF A BUILDER THAT HOLDS AT LEAST ONE BYTE. ✋ THE MODEL FREEZES THOSE BYTES IN THE BUFFER (unsafe.String): a later write INTO them ends the model's run without an answer; a later append BEHIND them goes on. The statement's order of evaluation is drawn: one draw. THE FORM '_f': IT SAYS BESIDES THAT THE BUILDER IS A BUILDER STILL ('Lib.IsBuilderF', the same bytes): SO IT CAN BE WRITTEN ON: 'b.WriteString(b.String()[:k])'. (LAID: no walk: one application.) -/
theorem Try.Builder_String_f (B b : Nat) (l : List UInt8) (w : World) (h : Lib.IsBuilderF 170 5 B b (Lib.byteCells l) w) (h0 : l ≠ []) :
    Calls Try.prog 146 #[.pointer (some ⟨b, 0, none⟩)] w fun e w' => e = .returned (.string ⟨l.toArray⟩) ∧ (Lib.IsBuilderF 170 5 B b (Lib.byteCells l) w' ∧ Below B w w') := Any.Builder_String_f Try.lays169 Try.Builder_Extra_169 B b l w h h0
open Go.RowKit in
/-- (*strings.Builder).String OF A BUILDER THAT HOLDS NO BYTE: the empty string; THE FORM '_f': a builder still. (LAID: no walk: one application.) -/
theorem Try.Builder_String_empty_f (B b : Nat) (w : World) (h : Lib.IsBuilderF 170 5 B b [] w) (hBw : B ≤ w.heap.size) :
    Calls Try.prog 146 #[.pointer (some ⟨b, 0, none⟩)] w fun e w' => e = .returned (.string ⟨#[]⟩) ∧ (Lib.IsBuilderF 170 5 B b [] w' ∧ Below B w w') := Any.Builder_String_empty_f Try.lays169 Try.Builder_Extra_169 B b w h hBw
open Go.RowKit in
/-- (*strings.Builder).String: "String returns the accumulated string.": WHATEVER THE BUILDER HOLDS; THE FORM '_f': OF A BUILDER THAT MAY HAVE BEEN READ BEFORE; AND IT IS A BUILDER STILL, holding the same bytes: it can be written on. (LAID: no walk: one application.) -/
theorem Try.Builder_String_any_f (B b : Nat) (l : List UInt8) (w : World) (h : Lib.IsBuilderF 170 5 B b (Lib.byteCells l) w) (hBw : B ≤ w.heap.size) :
    Calls Try.prog 146 #[.pointer (some ⟨b, 0, none⟩)] w fun e w' => e = .returned (.string ⟨l.toArray⟩) ∧ (Lib.IsBuilderF 170 5 B b (Lib.byteCells l) w' ∧ Below B w w') := Any.Builder_String_any_f Try.lays169 Try.Builder_Extra_169 B b l w h hBw
def Try.lays129_ren : Go.Shelf.Ren := ⟨fun | 129 => 165 | n => n, fun | 53 => 141 | 3 => 3 | 4 => 4 | 46 => 109 | 5 => 5 | 9 => 9 | n => n, fun | n => n⟩
theorem Try.lays129 : Go.Proofs.Lays.n129 Try.prog Try.lays129_ren := {
  mixed := by kernel_rfl
  f129 := Try.func165.trans (congrArg some (by kernel_rfl))
  t3 := Try.underlying3
  a3 := Try.isAgg3
  z3 := Try.sizeOf3
  v3 := Try.zeroValue3
  t4 := Try.underlying4
  a4 := Try.isAgg4
  z4 := Try.sizeOf4
  v4 := Try.zeroValue4
  t5 := Try.underlying5
  a5 := Try.isAgg5
  z5 := Try.sizeOf5
  v5 := Try.zeroValue5
  t9 := Try.underlying9
  a9 := Try.isAgg9
  z9 := Try.sizeOf9
  v9 := Try.zeroValue9
  t46 := Try.underlying109
  a46 := Try.isAgg109
  z46 := Try.sizeOf109
  v46 := Try.zeroValue109
  t53 := Try.underlying141
  a53 := Try.isAgg141
  z53 := Try.sizeOf141
  v53 := Try.zeroValue141 }
/-- bits.Len64: "Len64 returns the minimum number of bits required to represent x; the result is 0 for x == 0.": IT RETURNS 'Lib.bitLen x'; the world is as it was. ('h0', 'h1': x is a uint64.) (LAID: no walk: one application.) -/
theorem Try.bits_Len64 (x : Int) (w : World) (h0 : 0 ≤ x) (h1 : x ≤ 18446744073709551615) :
    Calls Try.prog 165 #[.int .u64 x] w fun e w' => e = .returned (.int .i64 (Lib.bitLen x.toNat)) ∧ w' = w := Any.bits_Len64 Try.lays129 x w h0 h1
def Try.laysM316_ren : Go.Shelf.Ren := ⟨fun | 316 => 153 | n => n, fun | 9 => 9 | 3 => 3 | 4 => 4 | 37 => 68 | 0 => 0 | 127 => 194 | 5 => 5 | n => n, fun | n => n⟩
theorem Try.laysM316 : Go.Proofs.LaysM.n316 Try.prog Try.laysM316_ren := {
  mixed := by kernel_rfl
  f316 := Try.func153.trans (congrArg some (by kernel_rfl))
  t0 := Try.underlying0
  a0 := Try.isAgg0
  z0 := Try.sizeOf0
  v0 := Try.zeroValue0
  t3 := Try.underlying3
  a3 := Try.isAgg3
  z3 := Try.sizeOf3
  v3 := Try.zeroValue3
  t4 := Try.underlying4
  a4 := Try.isAgg4
  z4 := Try.sizeOf4
  v4 := Try.zeroValue4
  t9 := Try.underlying9
  a9 := Try.isAgg9
  z9 := Try.sizeOf9
  v9 := Try.zeroValue9
  t37 := Try.underlying68
  a37 := Try.isAgg68
  z37 := Try.sizeOf68
  v37 := Try.zeroValue68
  t127 := Try.underlying194
  a127 := Try.isAgg194
  z127 := Try.sizeOf194
  v127 := Try.zeroValue194
  t5 := Try.underlying5
  a5 := Try.isAgg5
  z5 := Try.sizeOf5
  v5 := Try.zeroValue5
  i0 := by kernel_rfl
  i3 := by kernel_rfl
  i4 := by kernel_rfl
  i5 := by kernel_rfl
  i9 := by kernel_rfl
  i37 := by kernel_rfl
  i127 := by kernel_rfl }
open Go.RowKit in
/-- internal/stringslite.Clone (what strings.Clone calls): "Clone returns a fresh copy of s.": THE SAME BYTES. Of what was there nothing has turned (a new row is laid, and frozen, where s is not empty). (LAID: no walk: one application.) -/
theorem Try.stringslite_Clone (s : ByteArray) (w : World) (hlim : s.size ≤ 281474976710656) :
    Calls Try.prog 153 #[.string s] w fun e w' => e = .returned (.string s) ∧ Below w.heap.size w w' := Any.stringslite_Clone Try.laysM316 s w hlim
def Try.lays189_ren : Go.Shelf.Ren := ⟨fun | 189 => 148 | 125 => 137 | 257 => 173 | 128 => 164 | 129 => 165 | 294 => 183 | 295 => 184 | 296 => 185 | 297 => 186 | 298 => 187 | 299 => 188 | 216 => 189 | 300 => 190 | 301 => 191 | 328 => 193 | 329 => 176 | 330 => 177 | 331 => 194 | 332 => 195 | 215 => 196 | 343 => 197 | n => n, fun | 28 => 83 | 3 => 3 | 46 => 109 | 0 => 0 | 51 => 136 | 53 => 141 | 4 => 4 | 183 => 183 | 182 => 182 | 131 => 111 | 5 => 5 | 9 => 9 | 218 => 197 | 222 => 201 | 228 => 212 | 229 => 213 | n => n, fun | n => n⟩
theorem Try.lays189 : Go.Proofs.Lays.n189 Try.prog Try.lays189_ren := {
  mixed := by kernel_rfl
  f125 := Try.func137.trans (congrArg some (by kernel_rfl))
  f128 := Try.func164.trans (congrArg some (by kernel_rfl))
  f129 := Try.func165.trans (congrArg some (by kernel_rfl))
  f189 := Try.func148.trans (congrArg some (by kernel_rfl))
  f215 := Try.func196.trans (congrArg some (by kernel_rfl))
  f216 := Try.func189.trans (congrArg some (by kernel_rfl))
  f257 := Try.func173.trans (congrArg some (by kernel_rfl))
  f294 := Try.func183.trans (congrArg some (by kernel_rfl))
  f295 := Try.func184.trans (congrArg some (by kernel_rfl))
  f296 := Try.func185.trans (congrArg some (by kernel_rfl))
  f297 := Try.func186.trans (congrArg some (by kernel_rfl))
  f298 := Try.func187.trans (congrArg some (by kernel_rfl))
  f299 := Try.func188.trans (congrArg some (by kernel_rfl))
  f300 := Try.func190.trans (congrArg some (by kernel_rfl))
  f301 := Try.func191.trans (congrArg some (by kernel_rfl))
  f328 := Try.func193.trans (congrArg some (by kernel_rfl))
  f329 := Try.func176.trans (congrArg some (by kernel_rfl))
  f330 := Try.func177.trans (congrArg some (by kernel_rfl))
  f331 := Try.func194.trans (congrArg some (by kernel_rfl))
  f332 := Try.func195.trans (congrArg some (by kernel_rfl))
  f343 := Try.func197.trans (congrArg some (by kernel_rfl))
  t0 := Try.underlying0
  a0 := Try.isAgg0
  z0 := Try.sizeOf0
  v0 := Try.zeroValue0
  t3 := Try.underlying3
  a3 := Try.isAgg3
  z3 := Try.sizeOf3
  v3 := Try.zeroValue3
  t4 := Try.underlying4
  a4 := Try.isAgg4
  z4 := Try.sizeOf4
  v4 := Try.zeroValue4
  t5 := Try.underlying5
  a5 := Try.isAgg5
  z5 := Try.sizeOf5
  v5 := Try.zeroValue5
  t9 := Try.underlying9
  a9 := Try.isAgg9
  z9 := Try.sizeOf9
  v9 := Try.zeroValue9
  t28 := Try.underlying83
  a28 := Try.isAgg83
  z28 := Try.sizeOf83
  v28 := Try.zeroValue83
  t46 := Try.underlying109
  a46 := Try.isAgg109
  z46 := Try.sizeOf109
  v46 := Try.zeroValue109
  t51 := Try.underlying136
  a51 := Try.isAgg136
  z51 := Try.sizeOf136
  v51 := Try.zeroValue136
  t53 := Try.underlying141
  a53 := Try.isAgg141
  z53 := Try.sizeOf141
  v53 := Try.zeroValue141
  t131 := Try.underlying111
  a131 := Try.isAgg111
  z131 := Try.sizeOf111
  v131 := Try.zeroValue111
  t182 := Try.underlying182
  a182 := Try.isAgg182
  z182 := Try.sizeOf182
  v182 := Try.zeroValue182
  t183 := Try.underlying183
  a183 := Try.isAgg183
  z183 := Try.sizeOf183
  v183 := Try.zeroValue183
  t218 := Try.underlying197
  a218 := Try.isAgg197
  z218 := Try.sizeOf197
  v218 := Try.zeroValue197
  t222 := Try.underlying201
  a222 := Try.isAgg201
  z222 := Try.sizeOf201
  v222 := Try.zeroValue201
  t228 := Try.underlying212
  a228 := Try.isAgg212
  z228 := Try.sizeOf212
  v228 := Try.zeroValue212
  t229 := Try.underlying213
  a229 := Try.isAgg213
  z229 := Try.sizeOf213
  v229 := Try.zeroValue213 }
open Go.Sort Go.RowKit in
theorem Try.slices_Sort_int (blk off cap : Nat) (zs : List Int) (w : World) (hH : Holds (Value.int .i64) w blk off zs.toArray) (hblk : blk < w.heap.size) (hsz : zs.length < 4611686018427387904) :
    Calls Try.prog 148 #[.slice (some ⟨blk, off, none⟩) zs.length cap] w fun e w' =>
      e = .returned (.tuple #[]) ∧ ∃ n os, w' = grow (putRow (Value.int .i64) (Sort.ahead w n) blk off (zs.mergeSort fun x y => decide (x ≤ y)).toArray) os := Any.slices_Sort_int Try.lays189 blk off cap zs w hH hblk hsz
def Try.lays190_ren : Go.Shelf.Ren := ⟨fun | 190 => 117 | 125 => 137 | 258 => 136 | 128 => 164 | 129 => 165 | 302 => 155 | 303 => 156 | 304 => 157 | 305 => 158 | 306 => 159 | 307 => 160 | 308 => 161 | 309 => 162 | 310 => 163 | 333 => 175 | 329 => 176 | 330 => 177 | 334 => 178 | 335 => 179 | 336 => 180 | 344 => 192 | n => n, fun | 31 => 23 | 9 => 9 | 3 => 3 | 46 => 109 | 0 => 0 | 51 => 136 | 53 => 141 | 4 => 4 | 183 => 183 | 182 => 182 | 131 => 111 | 5 => 5 | 218 => 197 | 222 => 201 | 228 => 212 | 229 => 213 | n => n, fun | n => n⟩
theorem Try.lays190 : Go.Proofs.Lays.n190 Try.prog Try.lays190_ren := {
  mixed := by kernel_rfl
  f125 := Try.func137.trans (congrArg some (by kernel_rfl))
  f128 := Try.func164.trans (congrArg some (by kernel_rfl))
  f129 := Try.func165.trans (congrArg some (by kernel_rfl))
  f190 := Try.func117.trans (congrArg some (by kernel_rfl))
  f258 := Try.func136.trans (congrArg some (by kernel_rfl))
  f302 := Try.func155.trans (congrArg some (by kernel_rfl))
  f303 := Try.func156.trans (congrArg some (by kernel_rfl))
  f304 := Try.func157.trans (congrArg some (by kernel_rfl))
  f305 := Try.func158.trans (congrArg some (by kernel_rfl))
  f306 := Try.func159.trans (congrArg some (by kernel_rfl))
  f307 := Try.func160.trans (congrArg some (by kernel_rfl))
  f308 := Try.func161.trans (congrArg some (by kernel_rfl))
  f309 := Try.func162.trans (congrArg some (by kernel_rfl))
  f310 := Try.func163.trans (congrArg some (by kernel_rfl))
  f329 := Try.func176.trans (congrArg some (by kernel_rfl))
  f330 := Try.func177.trans (congrArg some (by kernel_rfl))
  f333 := Try.func175.trans (congrArg some (by kernel_rfl))
  f334 := Try.func178.trans (congrArg some (by kernel_rfl))
  f335 := Try.func179.trans (congrArg some (by kernel_rfl))
  f336 := Try.func180.trans (congrArg some (by kernel_rfl))
  f344 := Try.func192.trans (congrArg some (by kernel_rfl))
  t0 := Try.underlying0
  a0 := Try.isAgg0
  z0 := Try.sizeOf0
  v0 := Try.zeroValue0
  t3 := Try.underlying3
  a3 := Try.isAgg3
  z3 := Try.sizeOf3
  v3 := Try.zeroValue3
  t4 := Try.underlying4
  a4 := Try.isAgg4
  z4 := Try.sizeOf4
  v4 := Try.zeroValue4
  t5 := Try.underlying5
  a5 := Try.isAgg5
  z5 := Try.sizeOf5
  v5 := Try.zeroValue5
  t9 := Try.underlying9
  a9 := Try.isAgg9
  z9 := Try.sizeOf9
  v9 := Try.zeroValue9
  t31 := Try.underlying23
  a31 := Try.isAgg23
  z31 := Try.sizeOf23
  v31 := Try.zeroValue23
  t46 := Try.underlying109
  a46 := Try.isAgg109
  z46 := Try.sizeOf109
  v46 := Try.zeroValue109
  t51 := Try.underlying136
  a51 := Try.isAgg136
  z51 := Try.sizeOf136
  v51 := Try.zeroValue136
  t53 := Try.underlying141
  a53 := Try.isAgg141
  z53 := Try.sizeOf141
  v53 := Try.zeroValue141
  t131 := Try.underlying111
  a131 := Try.isAgg111
  z131 := Try.sizeOf111
  v131 := Try.zeroValue111
  t182 := Try.underlying182
  a182 := Try.isAgg182
  z182 := Try.sizeOf182
  v182 := Try.zeroValue182
  t183 := Try.underlying183
  a183 := Try.isAgg183
  z183 := Try.sizeOf183
  v183 := Try.zeroValue183
  t218 := Try.underlying197
  a218 := Try.isAgg197
  z218 := Try.sizeOf197
  v218 := Try.zeroValue197
  t222 := Try.underlying201
  a222 := Try.isAgg201
  z222 := Try.sizeOf201
  v222 := Try.zeroValue201
  t228 := Try.underlying212
  a228 := Try.isAgg212
  z228 := Try.sizeOf212
  v228 := Try.zeroValue212
  t229 := Try.underlying213
  a229 := Try.isAgg213
  z229 := Try.sizeOf213
  v229 := Try.zeroValue213 }
open Go.Sort Go.RowKit in
theorem Try.slices_Sort_string (blk off cap : Nat) (ss : List (List UInt8)) (w : World) (hH : Holds encStr w blk off ss.toArray) (hblk : blk < w.heap.size) (hsz : ss.length < 4611686018427387904) :
    Calls Try.prog 117 #[.slice (some ⟨blk, off, none⟩) ss.length cap] w fun e w' =>
      e = .returned (.tuple #[]) ∧ ∃ n os, w' = grow (putRow encStr (Sort.ahead w n) blk off (ss.mergeSort fun x y => decide (x ≤ y)).toArray) os := Any.slices_Sort_string Try.lays190 blk off cap ss w hH hblk hsz
def Try.lays206_ren : Go.Shelf.Ren := ⟨fun | 206 => 169 | n => n, fun | 9 => 9 | 4 => 4 | 3 => 3 | n => n, fun | n => n⟩
theorem Try.lays206 : Go.Proofs.Lays.n206 Try.prog Try.lays206_ren := {
  mixed := by kernel_rfl
  f206 := Try.func169.trans (congrArg some (by kernel_rfl))
  t3 := Try.underlying3
  a3 := Try.isAgg3
  z3 := Try.sizeOf3
  v3 := Try.zeroValue3
  t4 := Try.underlying4
  a4 := Try.isAgg4
  z4 := Try.sizeOf4
  v4 := Try.zeroValue4
  t9 := Try.underlying9
  a9 := Try.isAgg9
  z9 := Try.sizeOf9
  v9 := Try.zeroValue9 }
open Go.RowKit Go.Lib in
/-- internal/stringslite.HasPrefix (what strings.HasPrefix calls). (LAID: no walk: one application.) -/
theorem Try.stringslite_HasPrefix (s p : ByteArray) (w : World) :
    Calls Try.prog 169 #[.string s, .string p] w fun e w' => e = .returned (.bool (Lib.hasPrefix s.data.toList p.data.toList)) ∧ w' = w := Any.stringslite_HasPrefix Try.lays206 s p w
def Try.lays99_ren : Go.Shelf.Ren := ⟨fun | 99 => 142 | 206 => 169 | n => n, fun | 9 => 9 | 4 => 4 | 3 => 3 | n => n, fun | n => n⟩
theorem Try.lays99 : Go.Proofs.Lays.n99 Try.prog Try.lays99_ren := {
  mixed := by kernel_rfl
  f99 := Try.func142.trans (congrArg some (by kernel_rfl))
  f206 := Try.func169.trans (congrArg some (by kernel_rfl))
  t3 := Try.underlying3
  a3 := Try.isAgg3
  z3 := Try.sizeOf3
  v3 := Try.zeroValue3
  t4 := Try.underlying4
  a4 := Try.isAgg4
  z4 := Try.sizeOf4
  v4 := Try.zeroValue4
  t9 := Try.underlying9
  a9 := Try.isAgg9
  z9 := Try.sizeOf9
  v9 := Try.zeroValue9 }
open Go.RowKit Go.Lib in
/-- strings.HasPrefix: "HasPrefix reports whether the string s begins with prefix.": IT RETURNS 'Lib.hasPrefix s prefix'; the world is as it was. (LAID: no walk: one application.) -/
theorem Try.strings_HasPrefix (s p : ByteArray) (w : World) :
    Calls Try.prog 142 #[.string s, .string p] w fun e w' => e = .returned (.bool (Lib.hasPrefix s.data.toList p.data.toList)) ∧ w' = w := Any.strings_HasPrefix Try.lays99 s p w
def Try.lays264_ren : Go.Shelf.Ren := ⟨fun | 264 => 168 | n => n, fun | 53 => 141 | 46 => 109 | n => n, fun | n => n⟩
theorem Try.lays264 : Go.Proofs.Lays.n264 Try.prog Try.lays264_ren := {
  mixed := by kernel_rfl
  f264 := Try.func168.trans (congrArg some (by kernel_rfl))
  t46 := Try.underlying109
  a46 := Try.isAgg109
  z46 := Try.sizeOf109
  v46 := Try.zeroValue109
  t53 := Try.underlying141
  a53 := Try.isAgg141
  z53 := Try.sizeOf141
  v53 := Try.zeroValue141 }
open Go.RowKit Go.Lib in
theorem Try.bits_Mul64 (x y : Nat) (hx : x < 18446744073709551616) (hy : y < 18446744073709551616) (w : World) :
    Calls Try.prog 168 #[.int .u64 x, .int .u64 y] w fun e w' => e = .returned (.tuple #[.int .u64 ((x * y / 18446744073709551616 : Nat) : Int), .int .u64 ((x * y % 18446744073709551616 : Nat) : Int)]) ∧ w' = w := Any.bits_Mul64 Try.lays264 x y hx hy w
def Try.lays212_ren : Go.Shelf.Ren := ⟨fun | 212 => 141 | 263 => 167 | 264 => 168 | n => n, fun | 46 => 109 | 51 => 136 | 146 => 190 | 53 => 141 | 148 => 192 | n => n, fun | n => n⟩
theorem Try.lays212 : Go.Proofs.Lays.n212 Try.prog Try.lays212_ren := {
  mixed := by kernel_rfl
  f212 := Try.func141.trans (congrArg some (by kernel_rfl))
  f263 := Try.func167.trans (congrArg some (by kernel_rfl))
  f264 := Try.func168.trans (congrArg some (by kernel_rfl))
  t46 := Try.underlying109
  a46 := Try.isAgg109
  z46 := Try.sizeOf109
  v46 := Try.zeroValue109
  t51 := Try.underlying136
  a51 := Try.isAgg136
  z51 := Try.sizeOf136
  v51 := Try.zeroValue136
  t53 := Try.underlying141
  a53 := Try.isAgg141
  z53 := Try.sizeOf141
  v53 := Try.zeroValue141
  t146 := Try.underlying190
  a146 := Try.isAgg190
  z146 := Try.sizeOf190
  v146 := Try.zeroValue190
  t148 := Try.underlying192
  a148 := Try.isAgg192
  z148 := Try.sizeOf192
  v148 := Try.zeroValue192 }
open Go.RowKit Go.Lib in
/-- math/bits.Mul: "Mul returns the full-width product of x and y": on a machine of 64 bits: Mul64's. (LAID: no walk: one application.) -/
theorem Try.bits_Mul (x y : Nat) (hx : x < 18446744073709551616) (hy : y < 18446744073709551616) (w : World) :
    Calls Try.prog 141 #[.int .u64 x, .int .u64 y] w fun e w' => e = .returned (.tuple #[.int .u64 ((x * y / 18446744073709551616 : Nat) : Int), .int .u64 ((x * y % 18446744073709551616 : Nat) : Int)]) ∧ w' = w := Any.bits_Mul Try.lays212 x y hx hy w
def Try.lays109_ren : Go.Shelf.Ren := ⟨fun | 109 => 140 | n => n, fun | 31 => 23 | 9 => 9 | 3 => 3 | 0 => 0 | 4 => 4 | n => n, fun | n => n⟩
theorem Try.lays109 : Go.Proofs.Lays.n109 Try.prog Try.lays109_ren := {
  mixed := by kernel_rfl
  f109 := Try.func140.trans (congrArg some (by kernel_rfl))
  t0 := Try.underlying0
  a0 := Try.isAgg0
  z0 := Try.sizeOf0
  v0 := Try.zeroValue0
  t3 := Try.underlying3
  a3 := Try.isAgg3
  z3 := Try.sizeOf3
  v3 := Try.zeroValue3
  t4 := Try.underlying4
  a4 := Try.isAgg4
  z4 := Try.sizeOf4
  v4 := Try.zeroValue4
  t9 := Try.underlying9
  a9 := Try.isAgg9
  z9 := Try.sizeOf9
  v9 := Try.zeroValue9
  t31 := Try.underlying23
  a31 := Try.isAgg23
  z31 := Try.sizeOf23
  v31 := Try.zeroValue23 }
open Go.Lib in
/-- slices.Index at []string: "Index returns the index of the first occurrence of v in s, or -1 if not present.": IT RETURNS 'Lib.idxOfS (the elements) v'; the world is as it was. 'zs': what the cells behind the slice's address hold (its spare capacity too, if you have it); 'zs.take n': its elements. (LAID: no walk: one application.) -/
theorem Try.slices_Index_string (b off n c : Nat) (zs : List ByteArray) (x : ByteArray) (w : World) (hz : n ≤ zs.length) (hbig : n ≤ 9223372036854775807) (hc : ∀ j, j < zs.length → w.cell? ⟨b, off + j, none⟩ = some (.string (zs.getD j ByteArray.empty))) :
    Calls Try.prog 140 #[.slice (some ⟨b, off, none⟩) n c, .string x] w fun e w' => e = .returned (.int .i64 (Lib.idxOfS (zs.take n) x)) ∧ w' = w := Any.slices_Index_string Try.lays109 b off n c zs x w hz hbig hc
open Go.Lib in
/-- The same at a slice of length 0, a nil one too: no cell is known, none is asked for. (LAID: no walk: one application.) -/
theorem Try.slices_Index_string_empty (a : Option Addr) (c : Nat) (x : ByteArray) (w : World) :
    Calls Try.prog 140 #[.slice a 0 c, .string x] w fun e w' => e = .returned (.int .i64 (Lib.idxOfS [] x)) ∧ w' = w := Any.slices_Index_string_empty Try.lays109 a c x w
def Try.lays110_ren : Go.Shelf.Ren := ⟨fun | 110 => 123 | 109 => 140 | n => n, fun | 31 => 23 | 9 => 9 | 4 => 4 | 3 => 3 | 0 => 0 | n => n, fun | n => n⟩
theorem Try.lays110 : Go.Proofs.Lays.n110 Try.prog Try.lays110_ren := {
  mixed := by kernel_rfl
  f109 := Try.func140.trans (congrArg some (by kernel_rfl))
  f110 := Try.func123.trans (congrArg some (by kernel_rfl))
  t0 := Try.underlying0
  a0 := Try.isAgg0
  z0 := Try.sizeOf0
  v0 := Try.zeroValue0
  t3 := Try.underlying3
  a3 := Try.isAgg3
  z3 := Try.sizeOf3
  v3 := Try.zeroValue3
  t4 := Try.underlying4
  a4 := Try.isAgg4
  z4 := Try.sizeOf4
  v4 := Try.zeroValue4
  t9 := Try.underlying9
  a9 := Try.isAgg9
  z9 := Try.sizeOf9
  v9 := Try.zeroValue9
  t31 := Try.underlying23
  a31 := Try.isAgg23
  z31 := Try.sizeOf23
  v31 := Try.zeroValue23 }
open Go.Lib in
/-- slices.Contains at []string: "Contains reports whether v is present in s.": IT RETURNS 'Lib.containsS (the elements) v', which is true just where v is among them ('Lib.containsS_iff'); the world is as it was. ITS CALLEE slices.Index IS MET BY ITS OWN CONTRACT OFF THE SHELF (lay that first): no loop is walked here. (LAID: no walk: one application.) -/
theorem Try.slices_Contains_string (b off n c : Nat) (zs : List ByteArray) (x : ByteArray) (w : World) (hz : n ≤ zs.length) (hbig : n ≤ 9223372036854775807) (hc : ∀ j, j < zs.length → w.cell? ⟨b, off + j, none⟩ = some (.string (zs.getD j ByteArray.empty))) :
    Calls Try.prog 123 #[.slice (some ⟨b, off, none⟩) n c, .string x] w fun e w' => e = .returned (.bool (Lib.containsS (zs.take n) x)) ∧ w' = w := Any.slices_Contains_string Try.lays110 b off n c zs x w hz hbig hc
open Go.Lib in
/-- The same at a slice of length 0, a nil one too. (LAID: no walk: one application.) -/
theorem Try.slices_Contains_string_empty (a : Option Addr) (c : Nat) (x : ByteArray) (w : World) :
    Calls Try.prog 123 #[.slice a 0 c, .string x] w fun e w' => e = .returned (.bool false) ∧ w' = w := Any.slices_Contains_string_empty Try.lays110 a c x w
def Try.laysNm216_ren : Go.Shelf.Ren := ⟨fun | 16 => 76 | n => n, fun | 24 => 23 | 9 => 9 | 4 => 4 | n => n, fun | n => n⟩
theorem Try.laysNm216 : Go.Proofs.Lays2.n16 Try.prog Try.laysNm216_ren := {
  mixed := by kernel_rfl
  f16 := Try.func76.trans (congrArg some (by kernel_rfl))
  t4 := Try.underlying4
  a4 := Try.isAgg4
  z4 := Try.sizeOf4
  v4 := Try.zeroValue4
  t9 := Try.underlying9
  a9 := Try.isAgg9
  z9 := Try.sizeOf9
  v9 := Try.zeroValue9
  t24 := Try.underlying23
  a24 := Try.isAgg23
  z24 := Try.sizeOf23
  v24 := Try.zeroValue23
  i9 := by kernel_rfl }
open Go.RowKit Go.Lib in
/-- slices.Clone at []string: "Clone returns a copy of the slice. The elements are copied using assignment, so this is a shallow clone. The result may have additional unused capacity. The result preserves the nilness of s.": OF A SLICE THAT IS NOT nil IT RETURNS A SLICE THAT IS NOT nil, OF THE SAME ELEMENTS, IN MEMORY OF THE CALL's OWN: in the how-to's words (6f): 'w'.ownsRow B e 1 v' n cells': v' begins at the head of a row among the blocks from B on (B: the heap's size at the call), not frozen, whose first cells are the elements · 'Below B w w'': below B all is as it was. The capacity is whatever the run-time gives. 'zs': what the cells behind the slice's address hold; 'zs.take n': its elements. (LAID: no walk: one application.) -/
theorem Try.slices_Clone_string (b off n c : Nat) (zs : List ByteArray) (w : World) (hz : n ≤ zs.length) (hbig : n * 16 ≤ 140737488355328) (hc : ∀ j, j < zs.length → w.cell? ⟨b, off + j, none⟩ = some (.string (zs.getD j ByteArray.empty))) :
    Calls Try.prog 76 #[.slice (some ⟨b, off, none⟩) n c] w fun e w' => ∃ v', e = .returned v' ∧ w'.ownsRow w.heap.size 9 1 v' n ((zs.take n).map (Value.string)) ∧ v' ≠ .slice none 0 0 ∧ Below w.heap.size w w' := Any.slices_Clone_string Try.laysNm216 b off n c zs w hz hbig hc
open Go.RowKit Go.Lib in
/-- The same at nil: nil comes back; the world is as it was. (LAID: no walk: one application.) -/
theorem Try.slices_Clone_string_nil (n c : Nat) (w : World) :
    Calls Try.prog 76 #[.slice none n c] w fun e w' => e = .returned (.slice none 0 0) ∧ w' = w := Any.slices_Clone_string_nil Try.laysNm216 n c w
open Go.RowKit Go.Lib in
/-- The same at a slice of length 0 that is not nil, WHATEVER ITS ADDRESS (no cell is asked for): a slice that is not nil and owns nothing comes back. (LAID: no walk: one application.) -/
theorem Try.slices_Clone_string_zero (a : Addr) (c : Nat) (w : World) :
    Calls Try.prog 76 #[.slice (some a) 0 c] w fun e w' => ∃ v', e = .returned v' ∧ w'.ownsRow w.heap.size 9 1 v' 0 [] ∧ v' ≠ .slice none 0 0 ∧ Below w.heap.size w w' := Any.slices_Clone_string_zero Try.laysNm216 a c w
def Try.lays194_ren : Go.Shelf.Ren := ⟨fun | 194 => 118 | n => n, fun | 31 => 23 | 9 => 9 | 3 => 3 | 4 => 4 | 0 => 0 | n => n, fun | n => n⟩
theorem Try.lays194 : Go.Proofs.Lays.n194 Try.prog Try.lays194_ren := {
  mixed := by kernel_rfl
  f194 := Try.func118.trans (congrArg some (by kernel_rfl))
  t0 := Try.underlying0
  a0 := Try.isAgg0
  z0 := Try.sizeOf0
  v0 := Try.zeroValue0
  t3 := Try.underlying3
  a3 := Try.isAgg3
  z3 := Try.sizeOf3
  v3 := Try.zeroValue3
  t4 := Try.underlying4
  a4 := Try.isAgg4
  z4 := Try.sizeOf4
  v4 := Try.zeroValue4
  t9 := Try.underlying9
  a9 := Try.isAgg9
  z9 := Try.sizeOf9
  v9 := Try.zeroValue9
  t31 := Try.underlying23
  a31 := Try.isAgg23
  z31 := Try.sizeOf23
  v31 := Try.zeroValue23 }
open Go.RowKit Go.Lib Go.Sort in
/-- slices.Compact at []string, over an array: the library's two loops are walked. (LAID: no walk: one application.) -/
theorem Try.slices_Compact_string_arr (blk off cap : Nat) (d : Array (List UInt8)) (w : World) (hH : Holds encStr w blk off d) (hsz : d.size ≤ 9223372036854775807) (hcap : d.size ≤ cap) :
    Calls Try.prog 118 #[.slice (some ⟨blk, off, none⟩) d.size cap] w fun e w' => e = .returned (.slice (some ⟨blk, off, none⟩) (compactUpTo d d.size).length cap) ∧ ∃ q, w' = putRow encStr (Sort.ahead w q) blk off (compactUpTo d d.size ++ List.replicate (d.size - (compactUpTo d d.size).length) []).toArray := Any.slices_Compact_string_arr Try.lays194 blk off cap d w hH hsz hcap
open Go.RowKit Go.Lib Go.Sort in
/-- slices.Compact at []string: "Compact replaces consecutive runs of equal elements with a single copy. This is like the uniq command found on Unix. Compact modifies the contents of the slice s and returns the modified slice, which may have a smaller length. Compact zeroes the elements between the new length and the original length. The result preserves the nilness of s.": IT RETURNS THE SLICE CUT TO 'Lib.compact zs'; ITS CELLS HOLD 'Lib.compact zs', THEN ZERO VALUES up to the old length; all else is as it was, but for the count of draws. IN THE WORDS OF slices.Sort's CONTRACT ('Holds', 'putRow'): so the everyday 'slices.Sort(xs); xs = slices.Compact(xs)' goes from the one contract to the other. It asks 'zs.length ≤ cap' (every slice's: the reslicing 's[:k]' looks at it). Length 0, nil: '.._empty'. (LAID: no walk: one application.) -/
theorem Try.slices_Compact_string (blk off cap : Nat) (zs : List (List UInt8)) (w : World) (hH : Holds encStr w blk off zs.toArray) (hsz : zs.length ≤ 9223372036854775807) (hcap : zs.length ≤ cap) :
    Calls Try.prog 118 #[.slice (some ⟨blk, off, none⟩) zs.length cap] w fun e w' => e = .returned (.slice (some ⟨blk, off, none⟩) (Lib.compact zs).length cap) ∧ ∃ q, w' = putRow encStr (Sort.ahead w q) blk off (Lib.compact zs ++ List.replicate (zs.length - (Lib.compact zs).length) []).toArray := Any.slices_Compact_string Try.lays194 blk off cap zs w hH hsz hcap
open Go.RowKit Go.Lib Go.Sort in
/-- The same at a slice of length 0, a nil one too: it comes back as it is. (LAID: no walk: one application.) -/
theorem Try.slices_Compact_string_empty (a : Option Addr) (cap : Nat) (w : World) :
    Calls Try.prog 118 #[.slice a 0 cap] w fun e w' => e = .returned (.slice a 0 cap) ∧ w' = w := Any.slices_Compact_string_empty Try.lays194 a cap w
def Try.laysNm237_ren : Go.Shelf.Ren := ⟨fun | 37 => 196 | n => n, fun | 3 => 3 | 4 => 4 | n => n, fun | n => n⟩
theorem Try.laysNm237 : Go.Proofs.Lays2.n37 Try.prog Try.laysNm237_ren := {
  mixed := by kernel_rfl
  f37 := Try.func196.trans (congrArg some (by kernel_rfl))
  t3 := Try.underlying3
  a3 := Try.isAgg3
  z3 := Try.sizeOf3
  v3 := Try.zeroValue3
  t4 := Try.underlying4
  a4 := Try.isAgg4
  z4 := Try.sizeOf4
  v4 := Try.zeroValue4 }
open Go.RowKit Go.Lib in
/-- cmp.isNaN[int]: 'x != x': false. (LAID: no walk: one application.) -/
theorem Try.cmp_isNaN_int2 (x : Int) (w : World) :
    Calls Try.prog 196 #[.int .i64 x] w fun e w' => e = .returned (.bool false) ∧ w' = w := Any.cmp_isNaN_int2 Try.laysNm237 x w
def Try.laysNm231_ren : Go.Shelf.Ren := ⟨fun | 31 => 189 | 37 => 196 | n => n, fun | 3 => 3 | 4 => 4 | n => n, fun | n => n⟩
theorem Try.laysNm231 : Go.Proofs.Lays2.n31 Try.prog Try.laysNm231_ren := {
  mixed := by kernel_rfl
  f31 := Try.func189.trans (congrArg some (by kernel_rfl))
  f37 := Try.func196.trans (congrArg some (by kernel_rfl))
  t3 := Try.underlying3
  a3 := Try.isAgg3
  z3 := Try.sizeOf3
  v3 := Try.zeroValue3
  t4 := Try.underlying4
  a4 := Try.isAgg4
  z4 := Try.sizeOf4
  v4 := Try.zeroValue4 }
open Go.RowKit Go.Lib in
/-- cmp.Less[int]: "Less reports whether x is less than y.": 'x < y'; the world is as it was. (LAID: no walk: one application.) -/
theorem Try.cmp_Less_int2 (x y : Int) (w : World) :
    Calls Try.prog 189 #[.int .i64 x, .int .i64 y] w fun e w' => e = .returned (.bool (decide (x < y))) ∧ w' = w := Any.cmp_Less_int2 Try.laysNm231 x y w
open Go.RowKit Go.Lib Go.Sort in
/-- slices.Compact at []string, of an argument. (LAID: no walk: one application.) -/
theorem Try.slices_Compact_string_cells (b off n c : Nat) (Sx : Nat → ByteArray) (w : World) (hbig : n ≤ 9223372036854775807) (hcap : n ≤ c) (hc : ∀ i, i < n → w.cell? ⟨b, off + i, none⟩ = some (.string (Sx i))) (hf : ∀ j, j < n → w.frozen? ⟨b, off + j, none⟩ = false) :
    Calls Try.prog 118 #[.slice (some ⟨b, off, none⟩) n c] w fun e w' => e = .returned (.slice (some ⟨b, off, none⟩) (Lib.compact (Lib.strsOf Sx n)).length c) ∧ ∃ q, w' = (w.drewN q).setCells b off ((Lib.compact (Lib.strsOf Sx n) ++ List.replicate (n - (Lib.compact (Lib.strsOf Sx n)).length) []).map encStr) := Any.slices_Compact_string_cells Try.lays194 b off n c Sx w hbig hcap hc hf
open Go.RowKit Go.Sort in
/-- .. and plain. (LAID: no walk: one application.) -/
theorem Try.slices_Sort_string_none (p : Option Addr) (cap : Nat) (w : World) :
    Calls Try.prog 117 #[.slice p 0 cap] w fun e w' => e = .returned (.tuple #[]) ∧ w' = w := Any.slices_Sort_string_none Try.lays190 p cap w
open Go.RowKit Go.Sort in
/-- .. and plain. (LAID: no walk: one application.) -/
theorem Try.slices_Sort_int_none (p : Option Addr) (cap : Nat) (w : World) :
    Calls Try.prog 148 #[.slice p 0 cap] w fun e w' => e = .returned (.tuple #[]) ∧ w' = w := Any.slices_Sort_int_none Try.lays189 p cap w
def Try.laysSlE041_f76_ren : Go.Shelf.Ren := ⟨fun | 41 => 76 | n => n, fun | 22 => 23 | 23 => 9 | 4 => 4 | n => n, fun | n => n⟩
theorem Try.laysSlE041_f76 : Go.Proofs.SlLaysE0.n41 Try.prog Try.laysSlE041_f76_ren := {
  mixed := by kernel_rfl
  f41 := ⟨Try.f76.name, by decide, Try.func76.trans (congrArg some (by kernel_rfl))⟩
  t4 := Try.underlying4
  a4 := Try.isAgg4
  z4 := Try.sizeOf4
  v4 := Try.zeroValue4
  t22 := Try.underlying23
  a22 := Try.isAgg23
  z22 := Try.sizeOf23
  v22 := Try.zeroValue23 }
open Go.RowKit Go.Lib in
/-- slices.Clone: "Clone returns a copy of the slice. The elements are copied using assignment, so this is a shallow clone. The result may have additional unused capacity. The result preserves the nilness of s.": OF A SLICE THAT IS NOT nil IT RETURNS A SLICE THAT IS NOT nil, OF THE SAME CELLS, IN MEMORY OF THE CALL's OWN ('ownsRow': the how-to's 6f); below the heap's size at the call all is as it was. (LAID AT THE INSTANCE 'slices.Clone[[]string,string]': no walk: one application.) -/
theorem Try.slices_Clone (i0 : TypeInfo) (z : Value) (size bytes : Nat) (hi : Try.prog.info? 9 = some i0) (hz0 : i0.zero = some z) (hz1 : i0.size = size) (hz2 : i0.bytes = bytes) (hzs : z.cells.size = size) (hsz : 0 < size) (z23 : ∀ w, (Go.sizeOf 9).run Try.prog w = .ok size w) (b off n c : Nat) (news : List Value) (w : World) (hl : news.length = n * size) (hn : n ≤ maxLen) (hbig : n * bytes ≤ 140737488355328) (hc : ∀ j u, news[j]? = some u → w.cell? ⟨b, off + j, none⟩ = some u) (h1 : ∀ u ∈ news, u.oneCell' = true) :
    Calls Try.prog 76 #[.slice (some ⟨b, off, none⟩) n c] w fun e w' => ∃ v', e = .returned v' ∧ w'.ownsRow w.heap.size 9 size v' n news ∧ v' ≠ .slice none 0 0 ∧ Below w.heap.size w w' := AnyE.slices_Clone Try.laysSlE041_f76 i0 z size bytes hi hz0 hz1 hz2 hzs hsz z23 b off n c news w hl hn hbig hc h1
open Go.RowKit Go.Lib in
/-- The same at nil: nil comes back; the world is as it was; nothing is asked of the element's type. (LAID AT THE INSTANCE 'slices.Clone[[]string,string]': no walk: one application.) -/
theorem Try.slices_Clone_nil (n c : Nat) (w : World) :
    Calls Try.prog 76 #[.slice none n c] w fun e w' => e = .returned (.slice none 0 0) ∧ w' = w := AnyE.slices_Clone_nil Try.laysSlE041_f76 n c w
end Go.Proofs

namespace Silo
open Go Go.Eng
theorem blockS_length (h : List Int) (s : List UInt8) (n : Int) (last : Bool) : (blockS h s n last).length = 8 := by simp [blockS]
def firstH : List Int := beginsL.set 0 (x32 (gW beginsL 0) 16842784)
theorem absorb_step {h : List Int} {s : List UInt8} {n : Nat} (hl : 64 < s.length) : absorb h s n = absorb (blockS h (s.take 64) ((n + 64 : Nat) : Int) false) (s.drop 64) (n + 64) := by
  rw [absorb, dif_pos hl]
theorem absorb_last {h : List Int} {s : List UInt8} {n : Nat} (hl : ¬ 64 < s.length) : absorb h s n = blockS h s ((n + s.length : Nat) : Int) true := by
  rw [absorb, dif_neg hl]
theorem absorb_length : ∀ (k : Nat) (h : List Int) (s : List UInt8) (n : Nat), s.length ≤ k → (absorb h s n).length = 8 := by
  intro k
  induction k with
  | zero => intro h s n hs; rw [absorb_last (by omega)]; exact blockS_length _ _ _ _
  | succ k ih =>
    intro h s n hs
    by_cases hl : 64 < s.length
    · rw [absorb_step hl]; exact ih _ _ _ (by simp; omega)
    · rw [absorb_last hl]; exact blockS_length _ _ _ _
def outK (h : List Int) (k : Nat) : List UInt8 := (List.range k).map fun i => u8I (gW h (i / 4) / 2 ^ (8 * (i % 4)))
theorem outK_succ (h : List Int) (k : Nat) : outK h (k + 1) = outK h k ++ [u8I (gW h (k / 4) / 2 ^ (8 * (k % 4)))] := by simp [outK, List.range_succ]
theorem outK_length (h : List Int) (k : Nat) : (outK h k).length = k := by simp [outK]
end Silo
namespace Go.Proofs.Ytnddlhjafkhdoaa
open Go Go.Eng Go.RowKit Silo TryT
abbrev tHash : TypeId := 154

theorem sclone_ok {w : World} (s : List UInt8) (hs : s.length ≤ 140737488355328) : Calls Try.prog 153 #[St s] w (Ret fun v w' => Below w.heap.size w w' ∧ v = St s) :=
  (Try.stringslite_Clone ⟨s.toArray⟩ w (by rw [size_mk]; omega)).mono fun _ _ h => ⟨_, h.1, h.2, rfl⟩
theorem clone_ok {w : World} (s : List UInt8) (hs : s.length ≤ 140737488355328) : Calls Try.prog 133 #[St s] w (Ret fun v w' => Below w.heap.size w w' ∧ v = St s) := by
  have hK : Old w w := Old.refl w
  refine enter (n := 5) (res := #[.tmp 2]) Try.func133 rfl rfl rfl rfl ?_
  refine cseq <| cregion <| qq (Val.assign rfl) rfl <| cnil <| cseq <| cregion <| qq (Val.move rfl) rfl ?_
  refine WR.eff (Eff.call pf153 rfl (sclone_ok s hs)) rfl ?_
  rintro v4 w1 ⟨hk1, rfl⟩
  replace hK := hK.up hk1
  refine qq (Val.assign rfl) rfl <| cnil ?_
  refine WC.ret1 rfl rfl ?_
  exact ⟨hK, rfl⟩

theorem new_ok {w : World} : Calls Try.prog 112 #[] w (Ret fun v w' => Below w.heap.size w w' ∧ ∃ b, v = .pointer (some ⟨b, 0, none⟩) ∧ w.heap.size ≤ b ∧ Blk w' b (firstH.map W32 ++ [St [], I 0]) tHash) := by
  obtain ⟨c, hO, hc⟩ := OldC.start w
  refine enter (n := 15) (res := #[.tmp 0]) Try.func112 rfl rfl rfl rfl ?_
  refine cseq <| cregion <| qq (Val.assign rfl) rfl <| cnil <| cseq <| cregion ?_
  refine WR.eff (Eff.pureC c 1 (Eff.call pf131 rfl (begins_ok))) rfl ?_
  rintro v2 w1 ⟨c1, hM1, hx1, rfl⟩
  replace hO := hO.mv hM1 rfl
  refine qq (Val.build (cells := #[W32 1779033703, W32 3144134277, W32 1013904242, W32 2773480762, W32 1359893119, W32 2600822924, W32 528734635, W32 1541459225, St [], I 0]) rfl (by kernel_rfl)) rfl ?_
  refine WR.eff (Eff.boxC c1 104 rfl) rfl ?_
  rintro _ w2 ⟨b4, c2, rfl, hM2, hb4⟩
  replace hO := hO.mv hM2 rfl
  refine qq (Val.assign rfl) rfl <| cnil ?_
  have hge : w.heap.size ≤ b4 := by
    rcases Nat.lt_or_ge b4 w.heap.size with h | h
    · have h1 := hO.col b4 h; rw [hb4.col] at h1; cases h1
    · exact h
  refine cseq ?_
  refine WC.regionD (Kp c2 w2 []) [0, 0, 0, 0, 1, 0, 0, 0, 0, 3] [0, 1, 2, 3, 4, 5, 6, 7, 8, 9] mixed (by kernel_rfl) ?_
  have hM3 := Mv.drew c2 w2 []
  have hCw := Mv.drew c2 w2 []
  generalize w2.drew = w3 at hM3 hCw ⊢
  have hb40 := hb4
  replace hO := hO.mv hM3 rfl; replace hb4 := hb4.mv hM3 rfl
  refine qd rfl rfl rfl (fun _ => Val.move rfl) rfl <| qd rfl rfl rfl (fun _ => Val.nilCheck rfl) rfl ?_
  first | refine WD.val rfl rfl rfl (fun _ => Val.fieldAddr fld154_0 rfl) rfl ?_ | refine WD.val rfl rfl rfl (fun _ => Val.fieldAddrP fld154_0 rfl) rfl ?_
  refine qd rfl rfl rfl (fun _ => Val.indexArr arr137 rfl rfl (by first | omega | assumption | (simp; omega) | (simp; done)) (by first | omega | assumption | (simp; omega) | (simp; done))) rfl <| qc rfl rfl rfl hCw.kp (fun W hW => Val.loadB scl136 rfl (hb40.kp hW rfl).blk rfl) rfl <| qd rfl rfl rfl (fun _ => Val.xor_u32 rfl rfl) rfl <| qd rfl rfl rfl (fun _ => Val.nilCheck rfl) rfl ?_
  first | refine WD.val rfl rfl rfl (fun _ => Val.fieldAddr fld154_0 rfl) rfl ?_ | refine WD.val rfl rfl rfl (fun _ => Val.fieldAddrP fld154_0 rfl) rfl ?_
  refine qd rfl rfl rfl (fun _ => Val.indexArr arr137 rfl rfl (by first | omega | assumption | (simp; omega) | (simp; done)) (by first | omega | assumption | (simp; omega) | (simp; done))) rfl ?_
  refine WD.wild rfl rfl rfl (Eff.storeC scl136 rfl rfl (by first | rfl | assumption) (by first | rfl | assumption) hb4 rfl) ?_
  rintro _ w4 ⟨hS, hM4⟩
  replace hO := hO.mv hM4 rfl
  replace hb4 := hS
  refine WD.nil ?_
  clear hb40
  clear hCw
  refine cseq <| cregion <| qq (Val.move rfl) rfl <| qq (Val.assign rfl) rfl <| cnil ?_
  refine WC.ret1 rfl rfl ?_
  exact ⟨hO.below, b4, rfl, hge, hb4.blk⟩

/-- A hash's cells. -/
abbrev hashC (h : List Int) (rest : List UInt8) (n : Int) : List Value := h.map W32 ++ [St rest, I n]
set_option maxHeartbeats 1000000 in
theorem write_ok {w : World} {b : Nat} {h : List Int} (hb : Blk w b (hashC h [] 0) tHash) (hl : h.length = 8) (s : List UInt8) (hs : s.length ≤ 140737488355328) :
    Calls Try.prog 113 #[.pointer (some ⟨b, 0, none⟩), St s] w (Ret fun v w' => w.grownBy w' (some b) ∧ ∃ h' rest, h'.length = 8 ∧ rest.length ≤ 64 ∧ rest.length ≤ s.length ∧ Blk w' b (hashC h' rest s.length) tHash ∧ absorb h s 0 = blockS h' rest s.length true) := by
  obtain ⟨c, hc⟩ : ∃ c : Nat → Nat, c = oneC b := ⟨_, rfl⟩
  have hb0 : BlkC c w 2 b (hashC h [] 0) tHash := ⟨hb, by rw [hc, oneC_at]⟩
  have hA : Acc c w [2] c w := Acc.refl _ _ _
  clear hb
  obtain ⟨H, hH⟩ : ∃ H, H = h := ⟨h, rfl⟩
  rw [← hH]
  have hL := hl
  obtain ⟨a0, a1, a2, a3, a4, a5, a6, a7, rfl⟩ := eight hl
  refine enter (n := 62) (res := #[]) Try.func113 rfl rfl rfl rfl ?_
  refine cseq <| cregion <| qq (Val.move rfl) rfl <| qq (Val.nilCheck rfl) rfl ?_
  first | refine WR.val (Val.fieldAddr fld154_1 rfl) rfl ?_ | refine WR.val (Val.fieldAddrP fld154_1 rfl) rfl ?_
  refine qq (Val.loadB scl9 rfl hb0.blk rfl) rfl <| qq (Val.move rfl) rfl <| qq (Val.sadd rfl rfl (by first | omega | assumption | (simp; omega) | (simp; done))) rfl <| qq (Val.assign rfl) rfl <| cnil <| cseq ?_
  refine WC.regionD (Kp c w []) [0, 0, 0, 1, 0, 0, 0, 1, 0, 0, 0, 0, 3] [0, 1, 2, 3, 4, 5, 6, 7, 8, 9, 10, 11, 12] mixed (by kernel_rfl) ?_
  have hM1 := Mv.drew c w []
  have hCw := Mv.drew c w []
  generalize w.drew = w1 at hM1 hCw ⊢
  have hb00 := hb0
  replace hb0 := hb0.mv hM1 rfl; replace hA := hA.mv hM1 rfl
  refine qd rfl rfl rfl (fun _ => Val.move rfl) rfl <| qd rfl rfl rfl (fun _ => Val.nilCheck rfl) rfl ?_
  first | refine WD.val rfl rfl rfl (fun _ => Val.fieldAddr fld154_2 rfl) rfl ?_ | refine WD.val rfl rfl rfl (fun _ => Val.fieldAddrP fld154_2 rfl) rfl ?_
  refine qc rfl rfl rfl hCw.kp (fun W hW => Val.loadB scl3 rfl (hb00.kp hW rfl).blk rfl) rfl <| qd rfl rfl rfl (fun _ => Val.move rfl) rfl <| qd rfl rfl rfl (fun _ => Val.nilCheck rfl) rfl ?_
  first | refine WD.val rfl rfl rfl (fun _ => Val.fieldAddr fld154_1 rfl) rfl ?_ | refine WD.val rfl rfl rfl (fun _ => Val.fieldAddrP fld154_1 rfl) rfl ?_
  refine qc rfl rfl rfl hCw.kp (fun W hW => Val.loadB scl9 rfl (hb00.kp hW rfl).blk rfl) rfl <| qd rfl rfl rfl (fun _ => Val.slen Try.underlying9 rfl) rfl <| qd rfl rfl rfl (fun _ => Val.subI rfl rfl (by first | omega | assumption | (simp; omega) | (simp; done)) (by first | omega | assumption | (simp; omega) | (simp; done))) rfl <| qd rfl rfl rfl (fun _ => Val.nilCheck rfl) rfl ?_
  first | refine WD.val rfl rfl rfl (fun _ => Val.fieldAddr fld154_2 rfl) rfl ?_ | refine WD.val rfl rfl rfl (fun _ => Val.fieldAddrP fld154_2 rfl) rfl ?_
  refine WD.wild rfl rfl rfl (Eff.storeC scl3 rfl rfl (by first | rfl | assumption) (by first | rfl | assumption) hb0 rfl) ?_
  rintro _ w2 ⟨hS, hM2⟩
  replace hA := hA.mv hM2 rfl
  replace hb0 := hS
  refine WD.nil ?_
  clear hb00
  clear hCw
  refine cseq <| cblock ?_
  rw [← hH] at hL
  refine WC.loop (σ := List Int × List UInt8 × Nat) (fun st => [(0, .pointer (some ⟨b, 0, none⟩)), (1, St st.2.1)]) (fun st w' => ∃ c', BlkC c' w' 2 b (hashC st.1 [] st.2.2) tHash ∧ Acc c w [2] c' w' ∧ st.1.length = 8 ∧ st.2.2 + st.2.1.length = s.length ∧ absorb H s 0 = absorb st.1 st.2.1 st.2.2) (fun st => st.2.1.length) (H, s, 0) (by repeat (first | exact Sub.nil _ | refine Sub.cons rfl ?_ | refine Sub.consM rfl ?_)) ⟨_, by rw [hH]; exact hb0, hA, hL, by simp, rfl⟩ ?_
  clear hb0 hA hH
  clear hL hl
  rintro ⟨h, t, n⟩ wl ⟨cl, hb0, hA, hl, hn, hab⟩
  dsimp only at hb0 hA hl hn hab ⊢
  obtain ⟨a0, a1, a2, a3, a4, a5, a6, a7, rfl⟩ := eight hl
  refine cseq <| cseq <| cregion <| qq (Val.move rfl) rfl <| qq (Val.slen Try.underlying9 rfl) rfl <| qq (Val.gtr rfl rfl) rfl <| cnil ?_
  refine WC.cond rfl (fun hc2 => ?_) (fun hc2 => ?_)
  ·try simp only [tstS] at hc2
   have ht : 64 < t.length := by omega
   refine cskip <| cblock <| cseq <| cregion <| qq (Val.move rfl) rfl <| qq (Val.nilCheck rfl) rfl ?_
   first | refine WR.val (Val.fieldAddr fld154_2 rfl) rfl ?_ | refine WR.val (Val.fieldAddrP fld154_2 rfl) rfl ?_
   refine qq (Val.loadB scl3 rfl hb0.blk rfl) rfl <| qq (Val.addI rfl rfl (by first | omega | assumption | (simp; omega) | (simp; done)) (by first | omega | assumption | (simp; omega) | (simp; done))) rfl <| qq (Val.nilCheck rfl) rfl ?_
   first | refine WR.val (Val.fieldAddr fld154_2 rfl) rfl ?_ | refine WR.val (Val.fieldAddrP fld154_2 rfl) rfl ?_
   refine WR.eff_ (Eff.storeC scl3 rfl rfl (by first | rfl | assumption) (by first | rfl | assumption) hb0 rfl) ?_
   rintro _ w3 ⟨hS, hM3⟩
   replace hA := hA.mv hM3 rfl
   replace hb0 := hS
   refine cnil <| cseq ?_
   refine WC.regionD (Kp cl w3 []) [0, 0, 0, 0, 1, 0, 0, 0, 0, 0, 1, 2, 0, 0, 3] [0, 1, 2, 3, 4, 5, 6, 7, 8, 9, 10, 11, 12, 13, 14] mixed (by kernel_rfl) ?_
   have hM4 := Mv.drew cl w3 []
   have hCw := Mv.drew cl w3 []
   generalize w3.drew = w4 at hM4 hCw ⊢
   have hb00 := hb0
   replace hb0 := hb0.mv hM4 rfl; replace hA := hA.mv hM4 rfl
   refine qd rfl rfl rfl (fun _ => Val.move rfl) rfl <| qd rfl rfl rfl (fun _ => Val.move rfl) rfl <| qd rfl rfl rfl (fun _ => Val.nilCheck rfl) rfl ?_
   first | refine WD.val rfl rfl rfl (fun _ => Val.fieldAddr fld154_0 rfl) rfl ?_ | refine WD.val rfl rfl rfl (fun _ => Val.fieldAddrP fld154_0 rfl) rfl ?_
   refine qc rfl rfl rfl hCw.kp (fun W hW => Val.loadSub agg137 rfl (hb00.kp hW rfl).blk (by simp [hashC])) rfl <| qd rfl rfl rfl (fun _ => Val.move rfl) rfl <| qd rfl rfl rfl (fun _ => Val.ssliceTo Try.underlying9 rfl rfl (by omega) (by omega)) rfl <| qd rfl rfl rfl (fun _ => Val.move rfl) rfl <| qd rfl rfl rfl (fun _ => Val.nilCheck rfl) rfl ?_
   first | refine WD.val rfl rfl rfl (fun _ => Val.fieldAddr fld154_2 rfl) rfl ?_ | refine WD.val rfl rfl rfl (fun _ => Val.fieldAddrP fld154_2 rfl) rfl ?_
   refine qc rfl rfl rfl hCw.kp (fun W hW => Val.loadB scl3 rfl (hb00.kp hW rfl).blk rfl) rfl ?_
   refine WD.eff rfl rfl rfl (Eff.pureC cl 1 (Eff.call pf132 rfl (turned_ok (h := [a0, a1, a2, a3, a4, a5, a6, a7]) rfl (t.take 64) (by simp; omega) _ (by omega) (by omega) false))) rfl ?_
   rintro v43 w5 ⟨c5, hM5, hx5, rfl⟩
   refine ⟨fun hC => hC.step hCw hM5 rfl, ?_⟩
   replace hCw := hCw.tr hM5 rfl
   replace hb0 := hb0.mv hM5 rfl; replace hA := hA.mv hM5 rfl
   refine qd rfl rfl rfl (fun _ => Val.nilCheck rfl) rfl ?_
   first | refine WD.val rfl rfl rfl (fun _ => Val.fieldAddr fld154_0 rfl) rfl ?_ | refine WD.val rfl rfl rfl (fun _ => Val.fieldAddrP fld154_0 rfl) rfl ?_
   refine WD.wild rfl rfl rfl (Eff.storeSubC agg137 rfl rfl hb0 (by simp [blockS]) (by simp [hashC]) (fun v hv => by obtain ⟨n, _, rfl⟩ := List.mem_map.1 hv; rfl)) ?_
   rintro _ wA ⟨hS, hMA⟩
   replace hA := hA.mv hMA rfl
   replace hb0 : BlkC _ wA 2 b (hashC (blockS [a0, a1, a2, a3, a4, a5, a6, a7] (t.take 64) ((n : Int) + 64) false) [] ((n : Int) + 64)) tHash := hS
   refine WD.nil ?_
   clear hb00
   clear hCw
   refine cregion <| qq (Val.move rfl) rfl <| qq (Val.ssliceFrom Try.underlying9 rfl rfl (by first | omega | assumption | (simp; omega) | (simp; done)) (by first | omega | assumption | (simp; omega) | (simp; done))) rfl <| qq (Val.assign rfl) rfl <| cnil ?_
   have e64 : ((n : Int) + 64) = ((n + 64 : Nat) : Int) := by omega
   rw [e64] at hb0
   refine ⟨(blockS [a0, a1, a2, a3, a4, a5, a6, a7] (t.take 64) ((n + 64 : Nat) : Int) false, t.drop 64, n + 64), (by repeat (first | exact Sub.nil _ | refine Sub.cons rfl ?_ | refine Sub.consM rfl ?_)), ⟨_, hb0, hA, blockS_length _ _ _ _, by simp; omega, by rw [hab, absorb_step ht]⟩, by simp; omega⟩
  ·try simp only [tstS] at hc2
   have ht : ¬ 64 < t.length := by omega
   refine WC.exit rfl ?_
   refine cseq <| cregion <| qq (Val.move rfl) rfl <| qq (Val.move rfl) rfl ?_
   refine WR.eff (Eff.pureC cl 1 (Eff.call pf133 rfl (clone_ok t (by omega)))) rfl ?_
   rintro v50 w6 ⟨c6, hM6, hx6, rfl⟩
   replace hb0 := hb0.mv hM6 rfl; replace hA := hA.mv hM6 rfl
   refine qq (Val.nilCheck rfl) rfl ?_
   first | refine WR.val (Val.fieldAddr fld154_1 rfl) rfl ?_ | refine WR.val (Val.fieldAddrP fld154_1 rfl) rfl ?_
   refine WR.eff_ (Eff.storeC scl9 rfl rfl (by first | rfl | assumption) (by first | rfl | assumption) hb0 rfl) ?_
   rintro _ w7 ⟨hS, hM7⟩
   replace hA := hA.mv hM7 rfl
   replace hb0 := hS
   refine cnil <| cregion <| qq (Val.move rfl) rfl <| qq (Val.nilCheck rfl) rfl ?_
   first | refine WR.val (Val.fieldAddr fld154_2 rfl) rfl ?_ | refine WR.val (Val.fieldAddrP fld154_2 rfl) rfl ?_
   refine qq (Val.loadB scl3 rfl hb0.blk rfl) rfl <| qq (Val.move rfl) rfl <| qq (Val.slen Try.underlying9 rfl) rfl <| qq (Val.addI rfl rfl (by first | omega | assumption | (simp; omega) | (simp; done)) (by first | omega | assumption | (simp; omega) | (simp; done))) rfl <| qq (Val.nilCheck rfl) rfl ?_
   first | refine WR.val (Val.fieldAddr fld154_2 rfl) rfl ?_ | refine WR.val (Val.fieldAddrP fld154_2 rfl) rfl ?_
   refine WR.eff_ (Eff.storeC scl3 rfl rfl (by first | rfl | assumption) (by first | rfl | assumption) hb0 rfl) ?_
   rintro _ w8 ⟨hS, hM8⟩
   replace hA := hA.mv hM8 rfl
   replace hb0 := hS
   refine cnil ?_
   refine ⟨_, _, rfl, rfl, ?_⟩
   subst hc
   have e1 : ((n : Int) + (t.length : Int)) = ((s.length : Nat) : Int) := by omega
   have hb1 : BlkC _ _ 2 b (hashC [a0, a1, a2, a3, a4, a5, a6, a7] t ((n : Int) + (t.length : Int))) tHash := hb0
   rw [e1] at hb1
   refine ⟨rfl, hA.grownOne, _, t, rfl, by omega, by omega, hb1.blk, ?_⟩
   rw [hab, absorb_last ht, hn]
end Go.Proofs.Ytnddlhjafkhdoaa

namespace Silo
open Go Go.Eng
theorem outK_four (h : List Int) (k : Nat) : outK h (4 * (k + 1)) = outK h (4 * k) ++ [u8I (gW h k), u8I (gW h k / 2 ^ 8), u8I (gW h k / 2 ^ 16), u8I (gW h k / 2 ^ 24)] := by
  rw [show 4 * (k + 1) = 4 * k + 1 + 1 + 1 + 1 by omega]
  simp only [outK_succ]
  rw [show 4 * k / 4 = k by omega, show (4 * k + 1) / 4 = k by omega, show (4 * k + 1 + 1) / 4 = k by omega, show (4 * k + 1 + 1 + 1) / 4 = k by omega,
    show 4 * k % 4 = 0 by omega, show (4 * k + 1) % 4 = 1 by omega, show (4 * k + 1 + 1) % 4 = 2 by omega, show (4 * k + 1 + 1 + 1) % 4 = 3 by omega]
  simp
theorem outK_set {h : List Int} {k : Nat} (hk : k < 32) : (outK h k ++ List.replicate (32 - k) 0).set k (u8I (gW h (k / 4) / 2 ^ (8 * (k % 4)))) = outK h (k + 1) ++ List.replicate (32 - (k + 1)) 0 := by
  rw [outK_succ, List.set_append_right _ _ (by rw [outK_length]; exact Nat.le_refl _), outK_length, Nat.sub_self, show 32 - k = (32 - (k + 1)) + 1 by omega, List.replicate_succ]
  simp
end Silo
namespace Go.Eng
open Go
theorem Eff.grownC {P : Program} {env : Env} {w : World} {ty : TypeId} {op : Op} {c : Nat → Nat} {i b : Nat} {R : Value → World → Prop} (hc : c b = i) (hb : b < w.heap.size) (h : Eff P env w op ty (fun v w' => w.grownBy w' (some b) ∧ R v w')) :
    Eff P env w op ty (fun v w' => ∃ c', Mv c w c' w' [i] ∧ c' b = i ∧ R v w') := h.mono fun v w' ⟨hg, hr⟩ => by
  obtain ⟨c', hm, _⟩ := Mv.grown c i hg (fun k hk => by injection hk with hk; subst hk; exact hc)
  exact ⟨c', hm, (hm.col b hb).trans hc, hr⟩
end Go.Eng
namespace Go.Proofs.Ytnddlhjafkhdoaa
open Go Go.Eng Go.RowKit Silo TryT

set_option maxHeartbeats 1000000 in
theorem sum_ok {w : World} {b : Nat} {h : List Int} {rest : List UInt8} {n : Int} (hb : Blk w b (hashC h rest n) tHash) (hl : h.length = 8) (hr : rest.length ≤ 64) (h0 : 0 ≤ n) (hn : n < 9223372036854775808) :
    Calls Try.prog 114 #[.pointer (some ⟨b, 0, none⟩)] w (Ret fun v w' => Below w.heap.size w w' ∧ v = St (outS (blockS h rest n true))) := by
  obtain ⟨c, hOl, hc⟩ := OldC.start w
  have hb0 : BlkC c w 0 b (hashC h rest n) tHash := ⟨hb, hc b⟩
  clear hb hc
  obtain ⟨a0, a1, a2, a3, a4, a5, a6, a7, rfl⟩ := eight hl
  refine enter (n := 39) (res := #[.tmp 2]) Try.func114 rfl rfl rfl rfl ?_
  refine cseq <| cregion <| qq (Val.assign rfl) rfl <| cnil <| cseq <| cregion <| qq (Val.assign rfl) rfl <| cnil <| cseq ?_
  refine cseq ?_
  refine WC.regionD (Kp c w []) [0, 0, 0, 1, 0, 0, 0, 1, 0, 0, 0, 1, 2, 0] [0, 1, 2, 3, 4, 5, 6, 7, 8, 9, 10, 11, 13, 12] mixed (by kernel_rfl) ?_
  have hM1 := Mv.drew c w []
  have hCw := Mv.drew c w []
  generalize w.drew = w1 at hM1 hCw ⊢
  have hb00 := hb0
  replace hOl := hOl.mv hM1 rfl; replace hb0 := hb0.mv hM1 rfl
  refine qd rfl rfl rfl (fun _ => Val.move rfl) rfl <| qd rfl rfl rfl (fun _ => Val.nilCheck rfl) rfl ?_
  first | refine WD.val rfl rfl rfl (fun _ => Val.fieldAddr fld154_0 rfl) rfl ?_ | refine WD.val rfl rfl rfl (fun _ => Val.fieldAddrP fld154_0 rfl) rfl ?_
  refine qc rfl rfl rfl hCw.kp (fun W hW => Val.loadSub agg137 rfl (hb00.kp hW rfl).blk (by simp [hashC])) rfl <| qd rfl rfl rfl (fun _ => Val.move rfl) rfl <| qd rfl rfl rfl (fun _ => Val.nilCheck rfl) rfl ?_
  first | refine WD.val rfl rfl rfl (fun _ => Val.fieldAddr fld154_1 rfl) rfl ?_ | refine WD.val rfl rfl rfl (fun _ => Val.fieldAddrP fld154_1 rfl) rfl ?_
  refine qc rfl rfl rfl hCw.kp (fun W hW => Val.loadB scl9 rfl (hb00.kp hW rfl).blk rfl) rfl <| qd rfl rfl rfl (fun _ => Val.move rfl) rfl <| qd rfl rfl rfl (fun _ => Val.nilCheck rfl) rfl ?_
  first | refine WD.val rfl rfl rfl (fun _ => Val.fieldAddr fld154_2 rfl) rfl ?_ | refine WD.val rfl rfl rfl (fun _ => Val.fieldAddrP fld154_2 rfl) rfl ?_
  refine qc rfl rfl rfl hCw.kp (fun W hW => Val.loadB scl3 rfl (hb00.kp hW rfl).blk rfl) rfl <| qd rfl rfl rfl (fun _ => Val.move rfl) rfl ?_
  refine WD.eff rfl rfl rfl (Eff.pureC c 1 (Eff.call pf132 rfl (turned_ok (h := [a0, a1, a2, a3, a4, a5, a6, a7]) rfl rest hr n h0 hn true))) rfl ?_
  rintro v18 w2 ⟨c2, hM2, hx2, rfl⟩
  refine ⟨fun hC => hC.step hCw hM2 rfl, ?_⟩
  replace hCw := hCw.tr hM2 rfl
  replace hOl := hOl.mv hM2 rfl; replace hb0 := hb0.mv hM2 rfl
  refine WD.nil ?_
  clear hb00
  clear hCw
  refine cblock ?_
  have hlH := blockS_length [a0, a1, a2, a3, a4, a5, a6, a7] rest n true
  generalize blockS [a0, a1, a2, a3, a4, a5, a6, a7] rest n true = H at hlH ⊢
  refine WC.loop (σ := Nat × Value) (fun st => [(3, st.2), (18, .agg (H.map W32).toArray), (19, I st.1)]) (fun st w' => ∃ c', OldC w c' w' ∧ OwnC c' w' 1 5 1 st.2 (4 * st.1) (bytesV (outK H (4 * st.1))) ∧ st.1 ≤ 8) (fun st => 8 - st.1) (0, .slice none 0 0) (by repeat (first | exact Sub.nil _ | refine Sub.cons rfl ?_ | refine Sub.consM rfl ?_)) ⟨_, hOl, OwnC.nil _ _ _ _ _, by simp⟩ ?_
  clear hOl hb0
  rintro ⟨k, v⟩ wl ⟨cl, hOl, ho, hk⟩
  dsimp only at hOl ho hk ⊢
  refine cseq <| cregion <| qq (Val.lss rfl rfl) rfl <| cnil <| cseq ?_
  refine WC.cond rfl (fun hc3 => ?_) (fun hc3 => ?_)
  ·try simp only [tstS] at hc3
   have hk8 : k < 8 := by omega
   refine cskip <| cseq <| cblock <| cseq <| cregion <| qq (Val.indexAgg1 arr137 scl136 rfl rfl (by omega) (by omega) (gW_get (by omega))) rfl <| qq (Val.assign rfl) rfl <| cnil <| cregion ?_
   refine qq (Val.move rfl) rfl <| qq (Val.move rfl) rfl <| qq (Val.convToU8I Try.underlying136 Try.underlying5 rfl) rfl <| qq (Val.move rfl) rfl <| qq (Val.shr rfl rfl (by first | omega | assumption | (simp; omega) | (simp; done)) (by simp [IntKind.bits] <;> omega)) rfl <| qq (Val.convToU8I Try.underlying136 Try.underlying5 rfl) rfl <| qq (Val.move rfl) rfl <| qq (Val.shr rfl rfl (by first | omega | assumption | (simp; omega) | (simp; done)) (by simp [IntKind.bits] <;> omega)) rfl <| qq (Val.convToU8I Try.underlying136 Try.underlying5 rfl) rfl ?_
   refine qq (Val.move rfl) rfl <| qq (Val.shr rfl rfl (by first | omega | assumption | (simp; omega) | (simp; done)) (by simp [IntKind.bits] <;> omega)) rfl <| qq (Val.convToU8I Try.underlying136 Try.underlying5 rfl) rfl ?_
   refine WR.eff (Eff.buildC cl 134 sl68 rfl rfl rfl (by simp [Value.cells]) rfl rfl) rfl ?_
   rintro _ w3 ⟨b34, c3, rfl, hM3, hb34⟩
   replace hOl := hOl.mv hM3 rfl; replace ho := ho.mv hM3 rfl
   refine WR.eff (Eff.appendC sl68 rfl rfl ho (Src.cellsAt Try.underlying68 hb34.blk.cellsAt rfl (by repeat (first | exact List.forall_mem_nil _ | refine List.forall_mem_cons.2 ⟨by first | rfl | assumption, ?_⟩))) (by rw [maxLen_eq]; first | omega | (simp; omega)) (by first | omega | (simp; omega))) rfl ?_
   rintro v35 w4 ⟨c4, hM4, hOq⟩
   clear hb34
   replace hOl := hOl.mv hM4 rfl
   replace ho := hOq
   have e1 : bytesV (outK H (4 * k)) ++ [Value.int .u8 (u8I (gW H (k : Int).toNat)).toNat, Value.int .u8 (u8I (gW H (k : Int).toNat / 2 ^ (8 : Int).toNat)).toNat, Value.int .u8 (u8I (gW H (k : Int).toNat / 2 ^ (16 : Int).toNat)).toNat, Value.int .u8 (u8I (gW H (k : Int).toNat / 2 ^ (24 : Int).toNat)).toNat] = bytesV (outK H (4 * (k + 1))) := by
     rw [outK_four]; simp [bytesV]
   replace ho : OwnC _ _ 1 5 1 v35 (4 * k + 4) (bytesV (outK H (4 * k)) ++ [Value.int .u8 (u8I (gW H (k : Int).toNat)).toNat, Value.int .u8 (u8I (gW H (k : Int).toNat / 2 ^ (8 : Int).toNat)).toNat, Value.int .u8 (u8I (gW H (k : Int).toNat / 2 ^ (16 : Int).toNat)).toNat, Value.int .u8 (u8I (gW H (k : Int).toNat / 2 ^ (24 : Int).toNat)).toNat]) := ho
   rw [e1, show 4 * k + 4 = 4 * (k + 1) by omega] at ho
   refine qq (Val.assign rfl) rfl <| cnil <| cregion <| qq (Val.addI rfl rfl (by first | omega | assumption | (simp; omega) | (simp; done)) (by first | omega | assumption | (simp; omega) | (simp; done))) rfl <| qq (Val.move rfl) rfl <| cnil ?_
   exact ⟨(k + 1, _), (by repeat (first | exact Sub.nil _ | refine Sub.cons rfl ?_ | refine Sub.consM rfl ?_)), ⟨_, hOl, ho, by dsimp only; omega⟩, by dsimp only; omega⟩
  ·try simp only [tstS] at hc3
   have : k = 8 := by omega
   subst this
   refine WC.exit rfl ?_
   refine cseq <| cregion <| qq (Val.move rfl) rfl <| qq (Val.ofBytes Try.underlying68 Try.underlying9 Try.underlying5 rfl ho.own) rfl <| qq (Val.assign rfl) rfl <| cnil ?_
   refine WC.ret1 rfl rfl ?_
   exact ⟨hOl.below, rfl⟩
theorem of_ok {w : World} (s : List UInt8) (hs : s.length ≤ 140737488355328) : Calls Try.prog 74 #[St s] w (Ret fun v w' => Below w.heap.size w w' ∧ v = St (digestS s)) := by
  obtain ⟨c, hO, hc⟩ := OldC.start w
  clear hc
  refine enter (n := 10) (res := #[.tmp 2]) Try.func74 rfl rfl rfl rfl ?_
  refine cseq <| cregion <| qq (Val.assign rfl) rfl <| cnil <| cseq <| cregion ?_
  refine WR.eff (Eff.pureC c 7 (Eff.call pf112 rfl (new_ok))) rfl ?_
  rintro v4 w1 ⟨c1, hM1, hx1, ⟨b4, rfl, hge4, hb4⟩⟩
  replace hO := hO.mv hM1 rfl
  have hbh : BlkC _ _ 7 b4 (hashC firstH [] 0) tHash := ⟨hb4, hx1 b4 hge4⟩
  clear hb4
  refine qq (Val.assign rfl) rfl <| cnil <| cseq <| cregion <| qq (Val.move rfl) rfl <| qq (Val.move rfl) rfl ?_
  refine WR.eff (Eff.grownC hbh.col hbh.blk.lt (Eff.call pf113 rfl (write_ok hbh.blk rfl s hs))) rfl ?_
  rintro v7 w2 ⟨c2, hM2, hcb, h', rest, hl', hr', hrs, hbk, hab⟩
  replace hO := hO.mv hM2 rfl
  replace hbh : BlkC _ _ 7 b4 _ tHash := ⟨hbk, hcb⟩
  refine cnil <| cseq <| cregion <| qq (Val.move rfl) rfl ?_
  refine WR.eff (Eff.pureC c2 1 (Eff.call pf114 rfl (sum_ok hbh.blk hl' hr' (by omega) (by omega)))) rfl ?_
  rintro v9 w3 ⟨c3, hM3, hx3, rfl⟩
  replace hO := hO.mv hM3 rfl; replace hbh := hbh.mv hM3 rfl
  refine qq (Val.assign rfl) rfl <| cnil ?_
  refine WC.ret1 rfl rfl ?_
  exact ⟨hO.below, by rw [digestS, show beginsL.set 0 (x32 (gW beginsL 0) 16842784) = firstH from rfl, hab]⟩

theorem rdigest_ok {w : World} (s : List UInt8) (hs : s.length ≤ 140737488355328) : Calls Try.prog 75 #[St s] w (Ret fun v w' => Below w.heap.size w w' ∧ v = St (digestS s)) := by
  obtain ⟨c, hOl, hc⟩ := OldC.start w
  clear hc
  refine enter (n := 54) (res := #[.tmp 2]) Try.func75 rfl rfl rfl rfl ?_
  refine cseq <| cregion <| qq (Val.assign rfl) rfl <| cnil <| cseq <| cregion ?_
  refine WR.eff (Eff.pureC c 1 (Eff.call pf115 rfl (rbegins_ok))) rfl ?_
  rintro v7 w1 ⟨c1, hM1, hx1, rfl⟩
  replace hOl := hOl.mv hM1 rfl
  refine WR.eff (Eff.allocC c1 103 zero137) rfl ?_
  rintro _ w2 ⟨b3, c2, rfl, hM2, hb3⟩
  replace hOl := hOl.mv hM2 rfl
  refine WR.eff_ (Eff.storeNC agg137 rfl rfl hb3 rfl rfl (by repeat (first | exact List.forall_mem_nil _ | refine List.forall_mem_cons.2 ⟨by first | rfl | assumption, ?_⟩))) ?_
  rintro _ w3 ⟨hS, hM3⟩
  replace hOl := hOl.mv hM3 rfl
  replace hb3 := hS
  refine cnil ?_
  replace hb3 := BlkC.words (l := beginsL) hb3
  have hlb : beginsL.length = 8 := rfl
  refine cseq <| cregion <| qq (Val.indexArr arr137 rfl rfl (by first | omega | assumption | (simp; omega) | (simp; done)) (by first | omega | assumption | (simp; omega) | (simp; done))) rfl <| qq (Val.loadW scl136 rfl hb3.blk (by first | omega | assumption | (simp; omega) | (simp; done))) rfl <| qq (Val.xor_u32 rfl rfl) rfl <| qq (Val.indexArr arr137 rfl rfl (by first | omega | assumption | (simp; omega) | (simp; done)) (by first | omega | assumption | (simp; omega) | (simp; done))) rfl ?_
  refine WR.eff_ (Eff.storeW scl136 rfl rfl hb3 (by first | omega | assumption | (simp; omega) | (simp; done))) ?_
  rintro _ w4 ⟨hS, hM4⟩
  replace hOl := hOl.mv hM4 rfl
  replace hb3 := hS
  refine cnil <| cseq <| cregion <| qq (Val.assign rfl) rfl <| cnil <| cseq <| cblock ?_
  replace hb3 : BlkC _ _ 103 b3 (firstH.map W32 ++ []) d8 := hb3
  refine WC.loop (σ := List Int × Nat) (fun st => [(0, St s), (3, .pointer (some ⟨b3, 0, none⟩)), (4, I st.2)]) (fun st w' => ∃ c', OldC w c' w' ∧ BlkC c' w' 103 b3 (st.1.map W32 ++ []) d8 ∧ st.1.length = 8 ∧ st.2 ≤ s.length ∧ absorb firstH s 0 = absorb st.1 (s.drop st.2) st.2) (fun st => s.length - st.2) (firstH, 0) (by repeat (first | exact Sub.nil _ | refine Sub.cons rfl ?_ | refine Sub.consM rfl ?_)) ⟨_, hOl, hb3, rfl, by simp, rfl⟩ ?_
  clear hOl hb3 hlb
  rintro ⟨h, n⟩ wl ⟨cl, hOl, hb3, hl, hn, hab⟩
  dsimp only at hOl hb3 hl hn hab ⊢
  refine cseq <| cseq <| cregion <| qq (Val.move rfl) rfl <| qq (Val.slen Try.underlying9 rfl) rfl <| qq (Val.move rfl) rfl <| qq (Val.subI rfl rfl (by first | omega | assumption | (simp; omega) | (simp; done)) (by first | omega | assumption | (simp; omega) | (simp; done))) rfl <| qq (Val.gtr rfl rfl) rfl <| cnil ?_
  refine WC.cond rfl (fun hc4 => ?_) (fun hc4 => ?_)
  ·try simp only [tstS] at hc4
   have ht : 64 < (s.drop n).length := by simp; omega
   refine cskip <| cblock <| cseq <| cregion <| qq (Val.move rfl) rfl <| qq (Val.move rfl) rfl <| qq (Val.move rfl) rfl <| qq (Val.addI rfl rfl (by first | omega | assumption | (simp; omega) | (simp; done)) (by first | omega | assumption | (simp; omega) | (simp; done))) rfl <| qq (Val.sslice Try.underlying9 rfl rfl rfl (by omega) (by omega) (by omega)) rfl ?_
   refine qq (Val.move rfl) rfl <| qq (Val.addI rfl rfl (by first | omega | assumption | (simp; omega) | (simp; done)) (by first | omega | assumption | (simp; omega) | (simp; done))) rfl <| qq (Val.convToU64 Try.underlying3 Try.underlying141 rfl (by first | omega | assumption | (simp; omega) | (simp; done)) (by first | omega | assumption | (simp; omega) | (simp; done))) rfl ?_
   refine WR.eff (Eff.turnC hb3 (Eff.call pf116 rfl (rblock_ok hb3.blk hl ((s.drop (n : Int).toNat).take ((((n : Int) + 64).toNat) - (n : Int).toNat)) (by simp; omega) ((n : Int) + 64) (by omega) (by omega) false))) rfl ?_
   rintro v25 w5 ⟨c5, hM5, hb3⟩
   replace hOl := hOl.mv hM5 rfl
   refine cnil <| cregion <| qq (Val.move rfl) rfl <| qq (Val.addI rfl rfl (by first | omega | assumption | (simp; omega) | (simp; done)) (by first | omega | assumption | (simp; omega) | (simp; done))) rfl <| qq (Val.assign rfl) rfl <| cnil ?_
   have e1 : ((n : Int) + 64).toNat - (n : Int).toNat = 64 := by omega
   rw [e1, Int.toNat_natCast, show ((n : Int) + 64) = ((n + 64 : Nat) : Int) by omega] at hb3
   have e2 : ((n : Int) + 64) = ((n + 64 : Nat) : Int) := by omega
   rw [e2]
   exact ⟨(blockS h ((s.drop n).take 64) ((n + 64 : Nat) : Int) false, n + 64), (by repeat (first | exact Sub.nil _ | refine Sub.cons rfl ?_ | refine Sub.consM rfl ?_)), ⟨_, hOl, hb3, blockS_length _ _ _ _, by simp at ht; dsimp only; omega, by rw [hab, absorb_step ht, List.drop_drop]⟩, by simp at ht; dsimp only; omega⟩
  ·try simp only [tstS] at hc4
   have ht : ¬ 64 < (s.drop n).length := by simp; omega
   refine WC.exit rfl ?_
   refine cseq <| cregion <| qq (Val.move rfl) rfl <| qq (Val.move rfl) rfl <| qq (Val.ssliceFrom Try.underlying9 rfl rfl (by omega) (by omega)) rfl <| qq (Val.move rfl) rfl <| qq (Val.slen Try.underlying9 rfl) rfl <| qq (Val.convToU64 Try.underlying3 Try.underlying141 rfl (by first | omega | assumption | (simp; omega) | (simp; done)) (by first | omega | assumption | (simp; omega) | (simp; done))) rfl ?_
   refine WR.eff (Eff.turnC hb3 (Eff.call pf116 rfl (rblock_ok hb3.blk hl (s.drop (n : Int).toNat) (by simp; omega) (s.length : Int) (by omega) (by omega) true))) rfl ?_
   rintro v34 w6 ⟨c6, hM6, hb3⟩
   replace hOl := hOl.mv hM6 rfl
   have e3 : blockS h (s.drop (n : Int).toNat) (s.length : Int) true = absorb firstH s 0 := by
     rw [hab, absorb_last ht, Int.toNat_natCast, List.length_drop, show n + (s.length - n) = s.length by omega]
   rw [e3] at hb3
   have hlA := absorb_length _ firstH s 0 (Nat.le_refl _)
   generalize hH : absorb firstH s 0 = H at hb3 hlA
   refine cnil <| cseq <| cregion ?_
   refine WR.eff (Eff.makeC c6 135 sl68 rfl rfl (by first | omega | assumption | (simp; omega) | (simp; done)) (by first | omega | assumption | (simp; omega) | (simp; done)) (by first | omega | assumption | (simp; omega) | (simp; done))) rfl ?_
   rintro v35 w7 ⟨c7, hM7, ho35⟩
   replace hOl := hOl.mv hM7 rfl; replace hb3 := hb3.mv hM7 rfl
   refine qq (Val.assign rfl) rfl <| cnil ?_
   simp only [show Int.toNat 32 = 32 from rfl, bytesV_zero] at ho35
   refine cseq <| cseq <| cregion <| qq (Val.assign rfl) rfl <| cnil <| cblock ?_
   refine WC.loop (σ := Nat) (fun k => [(3, .pointer (some ⟨b3, 0, none⟩)), (5, v35), (6, I k)]) (fun k w' => ∃ c', OldC w c' w' ∧ BlkC c' w' 103 b3 (H.map W32 ++ []) d8 ∧ OwnC c' w' 135 5 1 v35 32 (bytesV (outK H k ++ List.replicate (32 - k) 0)) ∧ k ≤ 32) (fun k => 32 - k) 0 (by repeat (first | exact Sub.nil _ | refine Sub.cons rfl ?_ | refine Sub.consM rfl ?_)) ⟨_, hOl, hb3, ho35, by omega⟩ ?_
   clear hOl hb3 ho35
   rintro k wk ⟨ck, hOl, hb3, ho, hk⟩
   refine cseq <| cseq <| cregion <| qq (Val.move rfl) rfl <| qq (Val.lss rfl rfl) rfl <| cnil ?_
   refine WC.cond rfl (fun hc10 => ?_) (fun hc10 => ?_)
   ·try simp only [tstS] at hc10
    have hk8 : k < 32 := by omega
    refine cskip <| cseq <| cblock <| cregion <| qq (Val.move rfl) rfl <| qq (Val.move rfl) rfl <| qq (Val.move rfl) rfl <| qq (Val.quoI rfl rfl (by first | omega | assumption | (simp; omega) | (simp; done)) (by first | omega | assumption | (simp; omega) | (simp; done)) (by first | omega | assumption | (simp; omega) | (simp; done))) rfl <| qq (Val.indexArr arr137 rfl rfl (by first | omega | assumption | (simp; omega) | (simp; done)) (by first | omega | assumption | (simp; omega) | (simp; done))) rfl ?_
    refine qq (Val.loadW scl136 rfl hb3.blk (by first | omega | assumption | (simp; omega) | (simp; done))) rfl <| qq (Val.move rfl) rfl <| qq (Val.remI rfl rfl (by first | omega | assumption | (simp; omega) | (simp; done)) (by first | omega | assumption | (simp; omega) | (simp; done))) rfl <| qq (Val.mulI rfl rfl (by first | omega | assumption | (simp; omega) | (simp; done)) (by first | omega | assumption | (simp; omega) | (simp; done))) rfl <| qq (Val.shr rfl rfl (by first | omega | assumption | (simp; omega) | (simp; done)) (by simp [IntKind.bits] <;> omega)) rfl <| qq (Val.convToU8I Try.underlying136 Try.underlying5 rfl) rfl <| qq (Val.indexO sl68 ho rfl rfl (by omega) (by omega)) rfl ?_
    refine WR.eff_ (Eff.storeOC scl5 ho (by first | omega | assumption | (simp; omega) | (simp; done)) rfl rfl (by first | rfl | assumption) (by first | rfl | assumption)) ?_
    rintro _ w8 ⟨hS, hM8⟩
    replace hOl := hOl.mv hM8 rfl; replace hb3 := hb3.mv hM8 rfl
    replace ho := hS
    simp only [Int.toNat_natCast] at ho
    have e4 : ((k : Int) / 4).toNat = k / 4 := by omega
    have e5 : (8 * ((k : Int) % 4)).toNat = 8 * (k % 4) := by omega
    rw [e4, e5, bytesV_set, outK_set hk8] at ho
    refine cnil <| cregion <| qq (Val.move rfl) rfl <| qq (Val.addI rfl rfl (by first | omega | assumption | (simp; omega) | (simp; done)) (by first | omega | assumption | (simp; omega) | (simp; done))) rfl <| qq (Val.assign rfl) rfl <| cnil ?_
    exact ⟨k + 1, (by repeat (first | exact Sub.nil _ | refine Sub.cons rfl ?_ | refine Sub.consM rfl ?_)), ⟨_, hOl, hb3, ho, by omega⟩, by omega⟩
   ·try simp only [tstS] at hc10
    have : k = 32 := by omega
    subst this
    refine WC.exit rfl ?_
    refine cseq <| cregion <| qq (Val.move rfl) rfl <| qq (Val.ofBytes Try.underlying68 Try.underlying9 Try.underlying5 rfl ho.own) rfl <| qq (Val.assign rfl) rfl <| cnil ?_
    refine WC.ret1 rfl rfl ?_
    have e6 : outK H 32 ++ List.replicate (32 - 32) 0 = digestS s := by rw [← hH]; simp [digestS, outS, outK, firstH]
    exact ⟨hOl.below, by rw [e6]⟩
theorem pdigest_ok {w : World} (s : List UInt8) (hs : s.length ≤ 140737488355328) : Calls Try.prog 21 #[St s] w (Ret fun v w' => Below w.heap.size w w' ∧ v = St (digestS s)) := by
  have hK : Old w w := Old.refl w
  refine enter (n := 5) (res := #[.tmp 2]) Try.func21 rfl rfl rfl rfl ?_
  refine cseq <| cregion <| qq (Val.assign rfl) rfl <| cnil <| cseq <| cregion <| qq (Val.move rfl) rfl ?_
  refine WR.eff (Eff.call pf75 rfl (rdigest_ok s hs)) rfl ?_
  rintro v4 w1 ⟨hk1, rfl⟩
  replace hK := hK.up hk1
  refine qq (Val.assign rfl) rfl <| cnil ?_
  refine WC.ret1 rfl rfl ?_
  exact ⟨hK, rfl⟩
end Go.Proofs.Ytnddlhjafkhdoaa

namespace Silo
open Go Go.Eng
def manHead (m : Man) : List UInt8 := [77, 65, 78, 70] ++ [u8I m.kind, u8I m.blobs.length, u8I m.subs.length]
theorem manBytes_eq (m : Man) : manBytes m = manHead m ++ m.blobs.flatten ++ m.subs.flatten := by simp [manBytes, manHead]
theorem flatten_take {α : Type} {l : List (List α)} {k : Nat} (h : k < l.length) : (l.take (k + 1)).flatten = (l.take k).flatten ++ l[k] := by
  rw [List.take_succ_eq_append_getElem h, List.flatten_append]; simp only [List.flatten_cons, List.flatten_nil, List.append_nil]
theorem risingB_len {l : List (List UInt8)} (h : risingB l = true) : ∀ x ∈ l, x.length = 32 := fun x hx => by
  obtain ⟨i, hi, rfl⟩ := List.mem_iff_getElem.1 hx
  have := risingB_iff.1 h i hi
  simp only [digAt, Bool.and_eq_true, decide_eq_true_eq, getD_lt hi] at this
  exact this.1
theorem flat32 {l : List (List UInt8)} (h : ∀ x ∈ l, x.length = 32) : l.flatten.length = 32 * l.length := by
  induction l with
  | nil => rfl
  | cons a r ih => simp only [List.flatten_cons, List.length_append, List.length_cons, h a (by simp), ih (fun x hx => h x (by simp [hx]))]; omega
theorem manMay_iff (m : Man) : manMay m = true ↔ (0 ≤ m.kind ∧ m.kind ≤ 255) ∧ m.blobs.length + m.subs.length ≤ 20 ∧ risingB m.blobs = true ∧ risingB m.subs = true := by
  simp [manMay, and_assoc]
theorem manBytes_len {m : Man} (h : manMay m = true) : (manBytes m).length = 7 + 32 * (m.blobs.length + m.subs.length) := by
  obtain ⟨_, _, h3, h4⟩ := (manMay_iff m).1 h
  rw [manBytes_eq, List.length_append, List.length_append, flat32 (risingB_len h3), flat32 (risingB_len h4)]
  simp [manHead]; omega
end Silo
namespace Go.Proofs.Ytnddlhjafkhdoaa
open Go Go.Eng Go.RowKit Silo TryT

theorem eqManifest_ok {w : World} {ca cb : List Value} {a b : Man} (h1 : RdMan w ca a) (h2 : RdMan w cb b) :
    Calls Try.prog 24 #[.agg ca.toArray, .agg cb.toArray] w (Ret fun v w' => Below w.heap.size w w' ∧ v = .bool (decide (a = b))) := by
  obtain ⟨vl1, vs1, rfl, hl1, hs1, _⟩ := h1
  obtain ⟨vl2, vs2, rfl, hl2, hs2, _⟩ := h2
  have hK : Old w w := Old.refl w
  replace hl1 : Rd strS w vl1 a.blobs := hl1; replace hs1 : Rd strS w vs1 a.subs := hs1; replace hl2 : Rd strS w vl2 b.blobs := hl2; replace hs2 : Rd strS w vs2 b.subs := hs2
  refine enter (n := 24) (res := #[.tmp 4]) Try.func24 rfl rfl rfl rfl ?_
  refine cseq <| cregion ?_
  refine WR.eff (Eff.box rfl) rfl ?_
  rintro _ w1 ⟨b2, rfl, hn2⟩
  have hk1 := hn2.below
  replace hl1 := hl1.up hk1; replace hs1 := hs1.up hk1; replace hl2 := hl2.up hk1; replace hs2 := hs2.up hk1; replace hK := hK.up hk1
  have hb2 := hn2.blk
  refine WR.eff (Eff.box rfl) rfl ?_
  rintro _ w2 ⟨b3, rfl, hn3⟩
  have hk2 := hn3.below
  replace hl1 := hl1.up hk2; replace hs1 := hs1.up hk2; replace hl2 := hl2.up hk2; replace hs2 := hs2.up hk2; replace hK := hK.up hk2; replace hb2 := hb2.up hk2
  have hb3 := hn3.blk
  refine qq (Val.assign rfl) rfl <| cnil <| cseq <| cregion ?_
  first | refine WR.val (Val.fieldAddr fld29_0 rfl) rfl ?_ | refine WR.val (Val.fieldAddrP fld29_0 rfl) rfl ?_
  refine qq (Val.loadB scl3 rfl hb2 rfl) rfl ?_
  first | refine WR.val (Val.fieldAddr fld29_0 rfl) rfl ?_ | refine WR.val (Val.fieldAddrP fld29_0 rfl) rfl ?_
  refine qq (Val.loadB scl3 rfl hb3 rfl) rfl <| qq (Val.eql rfl rfl) rfl <| qq (Val.move rfl) rfl ?_
  apply WR.sc true 5 (decide (a.blobs = b.blobs)) (fun w' => Below w2.heap.size w2 w')
  case hl => rfl
  case hg => rfl
  case hu => rfl
  case hv => rfl
  case hs => rfl
  case hoff => rfl
  case hd => rfl
  case hF => exact fun _ => Below.refl _ _
  case hT =>
   intro hq11
   try simp only [tstS] at hq11
   simp only [List.take_succ_cons, List.take_zero]
   have hKsc11 : Old w2 w2 := Old.refl _
   refine WR.on rfl rfl ?_
   first | refine WR.val (Val.fieldAddr fld29_1 rfl) rfl ?_ | refine WR.val (Val.fieldAddrP fld29_1 rfl) rfl ?_
   refine WR.on rfl rfl ?_
   refine qq (Val.loadB scl23 rfl hb2 rfl) rfl ?_
   refine WR.on rfl rfl ?_
   first | refine WR.val (Val.fieldAddr fld29_1 rfl) rfl ?_ | refine WR.val (Val.fieldAddrP fld29_1 rfl) rfl ?_
   refine WR.on rfl rfl ?_
   refine qq (Val.loadB scl23 rfl hb3 rfl) rfl ?_
   refine WR.on rfl rfl ?_
   refine WR.eff (Eff.call pf37 rfl (eqStrings_ok hl1 hl2)) rfl ?_
   rintro v15 w3 ⟨hk3, rfl⟩
   replace hl1 := hl1.up hk3; replace hs1 := hs1.up hk3; replace hl2 := hl2.up hk3; replace hs2 := hs2.up hk3; replace hK := hK.up hk3; replace hb2 := hb2.up hk3; replace hb3 := hb3.up hk3; replace hKsc11 := hKsc11.up hk3
   exact WR.nil ⟨rfl, Sub.drop _ 5 _ rfl rfl, hKsc11⟩
  intro w4 hk4
  replace hl1 := hl1.up hk4; replace hs1 := hs1.up hk4; replace hl2 := hl2.up hk4; replace hs2 := hs2.up hk4; replace hK := hK.up hk4; replace hb2 := hb2.up hk4; replace hb3 := hb3.up hk4
  refine qq (Val.move rfl) rfl ?_
  apply WR.sc true 5 (decide (a.subs = b.subs)) (fun w' => Below w4.heap.size w4 w')
  case hl => rfl
  case hg => rfl
  case hu => rfl
  case hv => rfl
  case hs => rfl
  case hoff => rfl
  case hd => rfl
  case hF => exact fun _ => Below.refl _ _
  case hT =>
   intro hq18
   try simp only [tstS] at hq18
   simp only [List.take_succ_cons, List.take_zero]
   have hKsc18 : Old w4 w4 := Old.refl _
   refine WR.on rfl rfl ?_
   first | refine WR.val (Val.fieldAddr fld29_2 rfl) rfl ?_ | refine WR.val (Val.fieldAddrP fld29_2 rfl) rfl ?_
   refine WR.on rfl rfl ?_
   refine qq (Val.loadB scl23 rfl hb2 rfl) rfl ?_
   refine WR.on rfl rfl ?_
   first | refine WR.val (Val.fieldAddr fld29_2 rfl) rfl ?_ | refine WR.val (Val.fieldAddrP fld29_2 rfl) rfl ?_
   refine WR.on rfl rfl ?_
   refine qq (Val.loadB scl23 rfl hb3 rfl) rfl ?_
   refine WR.on rfl rfl ?_
   refine WR.eff (Eff.call pf37 rfl (eqStrings_ok hs1 hs2)) rfl ?_
   rintro v22 w5 ⟨hk5, rfl⟩
   replace hl1 := hl1.up hk5; replace hs1 := hs1.up hk5; replace hl2 := hl2.up hk5; replace hs2 := hs2.up hk5; replace hK := hK.up hk5; replace hb2 := hb2.up hk5; replace hb3 := hb3.up hk5; replace hKsc18 := hKsc18.up hk5
   exact WR.nil ⟨rfl, Sub.drop _ 5 _ rfl rfl, hKsc18⟩
  intro w6 hk6
  replace hl1 := hl1.up hk6; replace hs1 := hs1.up hk6; replace hl2 := hl2.up hk6; replace hs2 := hs2.up hk6; replace hK := hK.up hk6; replace hb2 := hb2.up hk6; replace hb3 := hb3.up hk6
  refine qq (Val.assign rfl) rfl <| cnil ?_
  refine WC.ret1 rfl rfl ?_
  exact ⟨hK, by congr 1; rw [Bool.eq_iff_iff]; cases a; cases b; simp [and_assoc]⟩

theorem copyManifest_ok {w : World} {ca : List Value} {a : Man} (h1 : RdMan w ca a) (hn : a.blobs.length ≤ 1048576) (hm : a.subs.length ≤ 1048576) :
    Calls Try.prog 16 #[.agg ca.toArray] w (Ret fun v w' => Below w.heap.size w w' ∧ ∃ vl vs, v = .agg #[I a.kind, vl, vs] ∧ Own w' w.heap.size 9 1 vl a.blobs.length (a.blobs.flatMap fun x => [St x]) ∧ Own w' w.heap.size 9 1 vs a.subs.length (a.subs.flatMap fun x => [St x])) := by
  obtain ⟨vl, vs, rfl, hl, hs, hq⟩ := h1
  have o1 := hl.oneC
  have o2 := hs.oneC
  obtain ⟨B, hB⟩ : ∃ B, B = w.heap.size := ⟨_, rfl⟩
  have hBw : B ≤ w.heap.size := Nat.le_of_eq hB
  have hK : Below B w w := Below.refl _ _
  rw [← hB] at hl hs ⊢
  refine enter (n := 14) (res := #[.cell 2 29]) Try.func16 rfl rfl rfl rfl ?_
  refine cseq <| cregion ?_
  refine WR.eff (Eff.box rfl) rfl ?_
  rintro _ w1 ⟨b1, rfl, hn1⟩
  have hk1 := hn1.below
  have hge1 : B ≤ b1 := by rw [hn1.at_]; exact hBw
  replace hl := hl.upB (hk1.mono hBw); replace hs := hs.upB (hk1.mono hBw); replace hK := hK.upB (hk1.mono hBw); replace hBw := Nat.le_trans hBw hk1.size
  have hb1 := hn1.blk
  refine WR.eff (Eff.alloc zero29) rfl ?_
  rintro _ w2 ⟨b2, rfl, hn2⟩
  have hk2 := hn2.below
  have hge2 : B ≤ b2 := by rw [hn2.at_]; exact hBw
  have hne2_b1 : b1 ≠ b2 := by have := hb1.lt; have := hn2.at_; omega
  replace hl := hl.upB (hk2.mono hBw); replace hs := hs.upB (hk2.mono hBw); replace hK := hK.upB (hk2.mono hBw); replace hb1 := hb1.up hk2; replace hBw := Nat.le_trans hBw hk2.size
  have hb2 := hn2.blk
  refine cnil <| cseq <| cregion <| qq (Val.loadBN agg29 rfl hb1 rfl) rfl ?_
  refine WR.eff (Eff.alloc zero29) rfl ?_
  rintro _ w3 ⟨b3, rfl, hn3⟩
  have hk3 := hn3.below
  have hge3 : B ≤ b3 := by rw [hn3.at_]; exact hBw
  have hne3_b1 : b1 ≠ b3 := by have := hb1.lt; have := hn3.at_; omega
  have hne3_b2 : b2 ≠ b3 := by have := hb2.lt; have := hn3.at_; omega
  replace hl := hl.upB (hk3.mono hBw); replace hs := hs.upB (hk3.mono hBw); replace hK := hK.upB (hk3.mono hBw); replace hb1 := hb1.up hk3; replace hb2 := hb2.up hk3; replace hBw := Nat.le_trans hBw hk3.size
  have hb3 := hn3.blk
  refine WR.eff_ (Eff.storeBN agg29 rfl rfl hb3 rfl rfl (by repeat (first | exact List.forall_mem_nil _ | refine List.forall_mem_cons.2 ⟨by first | rfl | assumption, ?_⟩))) ?_
  intro _ w4 hS4
  have hk4 : Below B _ _ := Blk.store_below hS4 hge3 hBw
  replace hb1 := hb1.grown hS4.grown (by simp; omega)
  replace hb2 := hb2.grown hS4.grown (by simp; omega)
  replace hl := hl.upB hk4; replace hs := hs.upB hk4; replace hK := hK.upB hk4; replace hBw := Nat.le_trans hBw hk4.size
  replace hb3 := hS4.blk
  refine cnil <| cseq ?_
  have hBl := hBw
  refine cregion ?_
  first | refine WR.val (Val.fieldAddr fld29_1 rfl) rfl ?_ | refine WR.val (Val.fieldAddrP fld29_1 rfl) rfl ?_
  refine qq (Val.loadB scl23 rfl hb1 rfl) rfl ?_
  have hlt5_b1 := hb1.lt
  have hlt5_b2 := hb2.lt
  have hlt5_b3 := hb3.lt
  refine WR.eff (Eff.call pf15 rfl (copyStrings_ok (hl.mono hBw) hn)) rfl ?_
  rintro v7 w5 ⟨hk5, ho7⟩
  replace hl := hl.upB (hk5.mono hBw); replace hs := hs.upB (hk5.mono hBw); replace hK := hK.upB (hk5.mono hBw); replace hb1 := hb1.up hk5; replace hb2 := hb2.up hk5; replace hb3 := hb3.up hk5; replace hBw := Nat.le_trans hBw hk5.size
  have c7 := ho7.cellsV; have o7 := ho7.oneC
  first | refine WR.val (Val.fieldAddr fld29_1 rfl) rfl ?_ | refine WR.val (Val.fieldAddrP fld29_1 rfl) rfl ?_
  refine WR.eff_ (Eff.storeB scl23 rfl rfl (by first | rfl | assumption) (by first | rfl | assumption) hb3 rfl) ?_
  intro _ w6 hS6
  have hk6 : Below B _ _ := Blk.store_below hS6 hge3 hBw
  replace hb1 := hb1.grown hS6.grown (by simp; omega)
  replace hb2 := hb2.grown hS6.grown (by simp; omega)
  replace ho7 := ho7.grown hS6.grown (fun k hk e => by have := (ho7.lt k hk).1; simp at e; omega)
  replace hl := hl.upB hk6; replace hs := hs.upB hk6; replace hK := hK.upB hk6; replace hBw := Nat.le_trans hBw hk6.size
  replace hb3 := hS6.blk
  refine cnil <| cseq ?_
  have hBm := hBw
  refine cregion ?_
  first | refine WR.val (Val.fieldAddr fld29_2 rfl) rfl ?_ | refine WR.val (Val.fieldAddrP fld29_2 rfl) rfl ?_
  refine qq (Val.loadB scl23 rfl hb1 rfl) rfl ?_
  have hlt7_b1 := hb1.lt
  have hlt7_b2 := hb2.lt
  have hlt7_b3 := hb3.lt
  refine WR.eff (Eff.call pf15 rfl (copyStrings_ok (hs.mono hBw) hm)) rfl ?_
  rintro v11 w7 ⟨hk7, ho11⟩
  replace hl := hl.upB (hk7.mono hBw); replace hs := hs.upB (hk7.mono hBw); replace hK := hK.upB (hk7.mono hBw); replace hb1 := hb1.up hk7; replace hb2 := hb2.up hk7; replace hb3 := hb3.up hk7; replace ho7 := ho7.up hk7; replace hBw := Nat.le_trans hBw hk7.size
  have c11 := ho11.cellsV; have o11 := ho11.oneC
  first | refine WR.val (Val.fieldAddr fld29_2 rfl) rfl ?_ | refine WR.val (Val.fieldAddrP fld29_2 rfl) rfl ?_
  refine WR.eff_ (Eff.storeB scl23 rfl rfl (by first | rfl | assumption) (by first | rfl | assumption) hb3 rfl) ?_
  intro _ w8 hS8
  have hk8 : Below B _ _ := Blk.store_below hS8 hge3 hBw
  replace hb1 := hb1.grown hS8.grown (by simp; omega)
  replace hb2 := hb2.grown hS8.grown (by simp; omega)
  replace ho7 := ho7.grown hS8.grown (fun k hk e => by have := (ho7.lt k hk).1; simp at e; omega)
  replace ho11 := ho11.grown hS8.grown (fun k hk e => by have := (ho11.lt k hk).1; simp at e; omega)
  replace hl := hl.upB hk8; replace hs := hs.upB hk8; replace hK := hK.upB hk8; replace hBw := Nat.le_trans hBw hk8.size
  replace hb3 := hS8.blk
  refine cnil <| cseq <| cregion <| qq (Val.loadBN agg29 rfl hb3 rfl) rfl ?_
  refine WR.eff_ (Eff.storeBN agg29 rfl rfl hb2 rfl rfl (by repeat (first | exact List.forall_mem_nil _ | refine List.forall_mem_cons.2 ⟨by first | rfl | assumption, ?_⟩))) ?_
  intro _ w9 hS9
  have hk9 : Below B _ _ := Blk.store_below hS9 hge2 hBw
  replace hb1 := hb1.grown hS9.grown (by simp; omega)
  replace hb3 := hb3.grown hS9.grown (by simp; omega)
  replace ho7 := ho7.grown hS9.grown (fun k hk e => by have := (ho7.lt k hk).1; simp at e; omega)
  replace ho11 := ho11.grown hS9.grown (fun k hk e => by have := (ho11.lt k hk).1; simp at e; omega)
  replace hl := hl.upB hk9; replace hs := hs.upB hk9; replace hK := hK.upB hk9; replace hBw := Nat.le_trans hBw hk9.size
  replace hb2 := hS9.blk
  refine cnil ?_
  refine WC.retR1 rfl (RVal.cellN agg29 rfl hb2 rfl) ?_
  exact ⟨hK, _, _, rfl, ho7.base_le hBl, ho11.base_le hBm⟩

theorem pmbytes_ok {w : World} {cs : List Value} {m : Man} (h : RdMan w cs m) (hm : manMay m = true) : Calls Try.prog 20 #[.agg cs.toArray] w (Ret fun v w' => Below w.heap.size w w' ∧ v = St (manBytes m)) := by
  obtain ⟨vb, vs, rfl, hb, hs, hq⟩ := h
  obtain ⟨⟨k0, k1⟩, hl20, hr1, hr2⟩ := (manMay_iff m).1 hm
  have hK : Old w w := Old.refl w
  have o1 := hb.oneC; have o2 := hs.oneC
  replace hb : Rd strS w vb m.blobs := hb; replace hs : Rd strS w vs m.subs := hs
  have f1 := risingB_len hr1; have f2 := risingB_len hr2
  refine enter (n := 49) (res := #[.tmp 2]) Try.func20 rfl rfl rfl rfl ?_
  refine cseq <| cregion ?_
  refine WR.eff (Eff.box rfl) rfl ?_
  rintro _ w1 ⟨b1, rfl, hn1⟩
  have hk1 := hn1.below
  replace hb := hb.up hk1; replace hs := hs.up hk1; replace hK := hK.up hk1
  have hb1 := hn1.blk
  refine qq (Val.assign rfl) rfl <| cnil <| cseq <| cregion ?_
  first | refine WR.val (Val.fieldAddr fld29_0 rfl) rfl ?_ | refine WR.val (Val.fieldAddrP fld29_0 rfl) rfl ?_
  refine qq (Val.loadB scl3 rfl hb1 rfl) rfl <| qq (Val.convToU8I Try.underlying3 Try.underlying5 rfl) rfl ?_
  first | refine WR.val (Val.fieldAddr fld29_1 rfl) rfl ?_ | refine WR.val (Val.fieldAddrP fld29_1 rfl) rfl ?_
  refine qq (Val.loadB scl23 rfl hb1 rfl) rfl ?_
  first | refine WR.val (Val.rdlen sl23 (by assumption) rfl) rfl ?_ | refine WR.val (Val.sllen Try.underlying23 rfl) rfl ?_
  refine qq (Val.convToU8I Try.underlying3 Try.underlying5 rfl) rfl ?_
  first | refine WR.val (Val.fieldAddr fld29_2 rfl) rfl ?_ | refine WR.val (Val.fieldAddrP fld29_2 rfl) rfl ?_
  refine qq (Val.loadB scl23 rfl hb1 rfl) rfl ?_
  first | refine WR.val (Val.rdlen sl23 (by assumption) rfl) rfl ?_ | refine WR.val (Val.sllen Try.underlying23 rfl) rfl ?_
  refine qq (Val.convToU8I Try.underlying3 Try.underlying5 rfl) rfl ?_
  refine WR.eff (Eff.buildSlice sl68 rfl rfl rfl (by simp [Value.cells]) rfl rfl) rfl ?_
  rintro _ w2 ⟨b17, rfl, hn17⟩
  have hk2 := hn17.below
  replace hb := hb.up hk2; replace hs := hs.up hk2; replace hK := hK.up hk2; replace hb1 := hb1.up hk2
  refine qq (Val.ofBytes (l := [u8I m.kind, u8I m.blobs.length, u8I m.subs.length]) Try.underlying68 Try.underlying9 Try.underlying5 rfl (hn17.own (n := 3) (size := 1) (Nat.le_refl _) rfl (by decide))) rfl <| qq (Val.sadd rfl rfl (by first | omega | assumption | (simp; omega) | (simp; done))) rfl <| qq (Val.assign rfl) rfl <| cnil <| cseq <| cseq <| cregion <| qq (Val.assign rfl) rfl <| cnil ?_
  refine cblock ?_
  refine WC.loop (σ := Nat) (fun k => [(1, .pointer (some ⟨b1, 0, none⟩)), (3, St (manHead m ++ (m.blobs.take k).flatten)), (4, I k)]) (fun k w' => Rd strS w' vb m.blobs ∧ Rd strS w' vs m.subs ∧ Old w w' ∧ Blk w' b1 [I m.kind, vb, vs] 29 ∧ k ≤ m.blobs.length) (fun k => m.blobs.length - k) 0 (by simp only [List.take_zero, List.flatten_nil, List.append_nil]; repeat (first | exact Sub.nil _ | refine Sub.cons rfl ?_ | refine Sub.consM rfl ?_)) ⟨hb, hs, hK, hb1, by omega⟩ ?_
  rintro k wl ⟨hb, hs, hK, hb1, hk⟩
  refine cseq <| cseq <| cregion <| qq (Val.move rfl) rfl ?_
  first | refine WR.val (Val.fieldAddr fld29_1 rfl) rfl ?_ | refine WR.val (Val.fieldAddrP fld29_1 rfl) rfl ?_
  refine qq (Val.loadB scl23 rfl hb1 rfl) rfl ?_
  first | refine WR.val (Val.rdlen sl23 (by assumption) rfl) rfl ?_ | refine WR.val (Val.sllen Try.underlying23 rfl) rfl ?_
  refine qq (Val.lss rfl rfl) rfl <| cnil ?_
  refine WC.cond rfl (fun hc3 => ?_) (fun hc3 => ?_)
  ·try simp only [tstS] at hc3
   have ka : k < m.blobs.length := by omega
   obtain ⟨cs1, hc31, rfl, ok1⟩ := hb.el ka
   have g1 : (manHead m ++ (m.blobs.take k).flatten).length ≤ 1000 := by
     rw [List.length_append, flat32 (fun x hx => f1 x (List.mem_of_mem_take hx)), List.length_take]; simp [manHead]; omega
   have g2 := f1 _ (List.getElem_mem ka)
   refine cskip <| cseq <| cblock <| cregion <| qq (Val.move rfl) rfl ?_
   first | refine WR.val (Val.fieldAddr fld29_1 rfl) rfl ?_ | refine WR.val (Val.fieldAddrP fld29_1 rfl) rfl ?_
   refine qq (Val.loadB scl23 rfl hb1 rfl) rfl <| qq (Val.move rfl) rfl <| qq (Val.indexAddr sl23 (by assumption) rfl rfl rfl (by first | omega | assumption | (simp; omega) | (simp; done)) (by first | omega | assumption | (simp; omega) | (simp; done))) rfl <| qq (Val.loadE1 scl9 rfl hc31) rfl <| qq (Val.sadd rfl rfl (by first | omega | assumption | (simp; omega) | (simp; done))) rfl <| qq (Val.assign rfl) rfl <| cnil <| cregion <| qq (Val.move rfl) rfl ?_
   refine qq (Val.addI rfl rfl (by first | omega | assumption | (simp; omega) | (simp; done)) (by first | omega | assumption | (simp; omega) | (simp; done))) rfl <| qq (Val.assign rfl) rfl <| cnil ?_
   exact ⟨k + 1, (by rw [flatten_take ka, ← List.append_assoc]; repeat (first | exact Sub.nil _ | refine Sub.cons rfl ?_ | refine Sub.consM rfl ?_)), ⟨hb, hs, hK, hb1, ka⟩, by omega⟩
  ·try simp only [tstS] at hc3
   have : k = m.blobs.length := by omega
   subst this
   rw [List.take_length]
   refine WC.exit rfl ?_
   refine cseq <| cseq <| cregion <| qq (Val.assign rfl) rfl <| cnil <| cblock ?_
   refine WC.loop (σ := Nat) (fun k => [(1, .pointer (some ⟨b1, 0, none⟩)), (3, St (manHead m ++ m.blobs.flatten ++ (m.subs.take k).flatten)), (5, I k)]) (fun k w' => Rd strS w' vs m.subs ∧ Old w w' ∧ Blk w' b1 [I m.kind, vb, vs] 29 ∧ k ≤ m.subs.length) (fun k => m.subs.length - k) 0 (by simp only [List.take_zero, List.flatten_nil, List.append_nil]; repeat (first | exact Sub.nil _ | refine Sub.cons rfl ?_ | refine Sub.consM rfl ?_)) ⟨hs, hK, hb1, by omega⟩ ?_
   rintro k wl2 ⟨hs, hK, hb1, hk⟩
   refine cseq <| cseq <| cregion <| qq (Val.move rfl) rfl ?_
   first | refine WR.val (Val.fieldAddr fld29_2 rfl) rfl ?_ | refine WR.val (Val.fieldAddrP fld29_2 rfl) rfl ?_
   refine qq (Val.loadB scl23 rfl hb1 rfl) rfl ?_
   first | refine WR.val (Val.rdlen sl23 (by assumption) rfl) rfl ?_ | refine WR.val (Val.sllen Try.underlying23 rfl) rfl ?_
   refine qq (Val.lss rfl rfl) rfl <| cnil ?_
   refine WC.cond rfl (fun hc7 => ?_) (fun hc7 => ?_)
   ·try simp only [tstS] at hc7
    have ka : k < m.subs.length := by omega
    obtain ⟨cs1, hc45, rfl, ok1⟩ := hs.el ka
    have g1 : (manHead m ++ m.blobs.flatten ++ (m.subs.take k).flatten).length ≤ 1000 := by
      rw [List.length_append, List.length_append, flat32 (fun x hx => f2 x (List.mem_of_mem_take hx)), flat32 f1, List.length_take]; simp [manHead]; omega
    have g2 := f2 _ (List.getElem_mem ka)
    refine cskip <| cseq <| cblock <| cregion <| qq (Val.move rfl) rfl ?_
    first | refine WR.val (Val.fieldAddr fld29_2 rfl) rfl ?_ | refine WR.val (Val.fieldAddrP fld29_2 rfl) rfl ?_
    refine qq (Val.loadB scl23 rfl hb1 rfl) rfl <| qq (Val.move rfl) rfl <| qq (Val.indexAddr sl23 (by assumption) rfl rfl rfl (by first | omega | assumption | (simp; omega) | (simp; done)) (by first | omega | assumption | (simp; omega) | (simp; done))) rfl <| qq (Val.loadE1 scl9 rfl hc45) rfl <| qq (Val.sadd rfl rfl (by first | omega | assumption | (simp; omega) | (simp; done))) rfl <| qq (Val.assign rfl) rfl <| cnil <| cregion <| qq (Val.move rfl) rfl ?_
    refine qq (Val.addI rfl rfl (by first | omega | assumption | (simp; omega) | (simp; done)) (by first | omega | assumption | (simp; omega) | (simp; done))) rfl <| qq (Val.assign rfl) rfl <| cnil ?_
    exact ⟨k + 1, (by rw [flatten_take ka, ← List.append_assoc]; repeat (first | exact Sub.nil _ | refine Sub.cons rfl ?_ | refine Sub.consM rfl ?_)), ⟨hs, hK, hb1, ka⟩, by omega⟩
   ·try simp only [tstS] at hc7
    have : k = m.subs.length := by omega
    subst this
    rw [List.take_length]
    refine WC.exit rfl ?_
    refine cseq <| cregion <| qq (Val.move rfl) rfl <| qq (Val.assign rfl) rfl <| cnil ?_
    refine WC.ret1 rfl rfl ?_
    exact ⟨hK, by rw [manBytes_eq]⟩
end Go.Proofs.Ytnddlhjafkhdoaa

namespace Silo
open Go Go.Eng Go.RowKit
/-- A list of lists of texts, in memory. -/
def strsS : Shape (List (List UInt8)) where
  size := 1
  rd := fun B w cs l => ∃ v, cs = [v] ∧ RdS strS B w v l
  len := fun ⟨_, h, _⟩ => by rw [h]; rfl
  keep := fun hk ⟨v, h, h1⟩ => ⟨v, h, h1.keep hk⟩
  mono := fun hB ⟨v, h, h1⟩ => ⟨v, h, h1.mono hB⟩
  one := fun ⟨v, h, h1⟩ u hu => by
    obtain ⟨A, c, rfl, _⟩ := h1.form
    subst h
    simp at hu
    subst hu; rfl
theorem sum_take_le (l : List Nat) (k : Nat) : (l.take k).sum ≤ l.sum := by
  conv => rhs; rw [← List.take_append_drop k l, List.sum_append]
  omega
theorem flatten_length {α : Type} (l : List (List α)) : l.flatten.length = (l.map List.length).sum := List.length_flatten
end Silo
namespace Go.Proofs.Ytnddlhjafkhdoaa
open Go Go.Eng Go.RowKit Silo TryT

theorem grow0_ok {w : World} (n : Nat) (hn : n ≤ 1048576) : Calls Try.prog 130 #[.slice none 0 0, I n] w (Ret fun v w' => Below w.heap.size w w' ∧ Own w' w.heap.size 9 1 v 0 []) := by
  have hK : Below w.heap.size w w := Below.refl _ _
  refine enter (n := 27) (res := #[.tmp 4]) Try.func130 rfl rfl rfl rfl ?_
  refine cseq <| cregion <| qq (Val.assign rfl) rfl <| cnil <| cseq <| cseq <| cregion <| qq (Val.move rfl) rfl <| qq (Val.lss rfl rfl) rfl ?_
  refine cnil ?_
  refine WC.cond rfl (fun hc1 => ?_) (fun hc1 => ?_)
  ·exfalso
   simp only [tstS] at hc1
   omega
  ·try simp only [tstS] at hc1
   refine cskip <| cseq <| cseq <| cregion <| qq (Val.move rfl) rfl <| qq (Val.move rfl) rfl <| qq (Val.slcap Try.underlying23 rfl) rfl <| qq (Val.move rfl) rfl ?_
   first | refine WR.val (Val.rdlen sl23 (by assumption) rfl) rfl ?_ | refine WR.val (Val.sllen Try.underlying23 rfl) rfl ?_
   refine qq (Val.subI rfl rfl (by first | omega | assumption | (simp; omega) | (simp; done)) (by first | omega | assumption | (simp; omega) | (simp; done))) rfl <| qq (Val.subI rfl rfl (by first | omega | assumption | (simp; omega) | (simp; done)) (by first | omega | assumption | (simp; omega) | (simp; done))) rfl <| qq (Val.assign rfl) rfl <| cnil <| cseq <| cregion <| qq (Val.move rfl) rfl <| qq (Val.gtr rfl rfl) rfl <| cnil ?_
   refine WC.cond rfl (fun hc4 => ?_) (fun hc4 => ?_)
   ·try simp only [tstS] at hc4
    have hn0 : 0 < n := by omega
    refine cregion <| qq (Val.move rfl) rfl <| qq (Val.move rfl) rfl <| qq (Val.slcap Try.underlying23 rfl) rfl <| qq (Val.partTo sl23 rfl rfl (by omega) (by omega)) rfl <| qq (Val.move rfl) rfl ?_
    refine WR.eff (Eff.appendZeros0 sl23 Try.underlying3 rfl rfl (by omega) (by decide) (by omega) (by decide)) rfl ?_
    rintro _ wA ⟨G, rfl, hG, hown, hkA⟩
    refine qq (Val.move rfl) rfl ?_
    first | refine WR.val (Val.rdlen sl23 (by assumption) rfl) rfl ?_ | refine WR.val (Val.sllen Try.underlying23 rfl) rfl ?_
    refine qq (Val.partTo sl23 rfl rfl (by omega) (by omega)) rfl <| qq (Val.assign rfl) rfl <| cnil <| cseq <| cregion <| qq (Val.move rfl) rfl <| qq (Val.assign rfl) rfl <| cnil ?_
    refine WC.ret1 rfl rfl ?_
    first
    | exact ⟨hkA, by
        have e : ∀ m : Nat, subV (.slice (some ⟨w.heap.size, 0, none⟩) m G) 0 ((0 : Nat) : Int).toNat 1 = .slice (some ⟨w.heap.size, 0, none⟩) 0 G := fun m => by simp [subV, show ¬ G = 0 by omega, add_lit]
        rw [e]; exact hown⟩
    | exact ⟨hK, Own.nil _ _ _ _⟩
   ·try simp only [tstS] at hc4
    refine cskip <| cseq <| cregion <| qq (Val.move rfl) rfl <| qq (Val.assign rfl) rfl <| cnil ?_
    refine WC.ret1 rfl rfl ?_
    first
    | exact ⟨hkA, by
        have e : ∀ m : Nat, subV (.slice (some ⟨w.heap.size, 0, none⟩) m G) 0 ((0 : Nat) : Int).toNat 1 = .slice (some ⟨w.heap.size, 0, none⟩) 0 G := fun m => by simp [subV, show ¬ G = 0 by omega, add_lit]
        rw [e]; exact hown⟩
    | exact ⟨hK, Own.nil _ _ _ _⟩

theorem concat_ok {w : World} {v : Value} {L : List (List (List UInt8))} (h1 : Rd strsS w v L) (hT : (L.map List.length).sum ≤ 1048576) :
    Calls Try.prog 111 #[v] w (Ret fun v' w' => Below w.heap.size w w' ∧ Own w' w.heap.size 9 1 v' L.flatten.length (L.flatten.flatMap fun x => [St x])) := by
  have hlen := h1.small
  unfold Rd at h1
  obtain ⟨B, hB⟩ : ∃ B, B = w.heap.size := ⟨_, rfl⟩
  have hBw : B ≤ w.heap.size := Nat.le_of_eq hB
  have hK : Below B w w := Below.refl _ _
  rw [← hB] at h1 ⊢
  refine enter (n := 36) (res := #[.tmp 2]) Try.func111 rfl rfl rfl rfl ?_
  refine cseq <| cregion <| qq (Val.assign rfl) rfl <| cnil <| cseq <| cregion <| qq (Val.assign rfl) rfl <| cnil <| cseq ?_
  refine cseq <| cregion <| qq (Val.move rfl) rfl ?_
  first | refine WR.val (Val.rdlen sl98 (by assumption) rfl) rfl ?_ | refine WR.val (Val.sllen Try.underlying98 rfl) rfl ?_
  refine qq (Val.move rfl) rfl <| cnil <| cblock ?_
  refine WC.loop (σ := Nat) (fun k => [(0, v), (3, I (((L.take k).map List.length).sum : Nat)), (9, v), (10, I L.length), (11, I k)]) (fun k w' => RdS strsS B w' v L ∧ Below B w w' ∧ B ≤ w'.heap.size ∧ k ≤ L.length) (fun k => L.length - k) 0 (by simp only [List.take_zero, List.map_nil, List.sum_nil]; repeat (first | exact Sub.nil _ | refine Sub.cons rfl ?_ | refine Sub.consM rfl ?_)) ⟨h1, hK, hBw, by omega⟩ ?_
  clear hBw h1 hK
  rintro k wl ⟨h1, hK, hBw, hk⟩
  refine cseq <| cregion <| qq (Val.lss rfl rfl) rfl <| cnil <| cseq ?_
  refine WC.cond rfl (fun hc3 => ?_) (fun hc3 => ?_)
  ·try simp only [tstS] at hc3
   have ka : k < L.length := by omega
   obtain ⟨cs1, hc13, vi, rfl, hvi⟩ := h1.elB ka
   replace hc13 := hc13.toCel hBw
   have g1 : ((L.take k).map List.length).sum + L[k].length ≤ 1048576 := by
     rw [← sum_take_succ _ ka]; have := sum_take_le (L.map List.length) (k + 1); rw [← List.map_take] at this; omega
   have hli := hvi.small
   refine cskip <| cseq <| cblock <| cseq <| cregion <| qq (Val.indexAddr sl98 (by assumption) rfl rfl rfl (by first | omega | assumption | (simp; omega) | (simp; done)) (by first | omega | assumption | (simp; omega) | (simp; done))) rfl <| qq (Val.loadE1 scl23 rfl hc13) rfl <| qq (Val.assign rfl) rfl <| cnil ?_
   refine cseq <| cregion <| qq (Val.move rfl) rfl <| qq (Val.move rfl) rfl ?_
   first | refine WR.val (Val.rdlen sl23 (by assumption) rfl) rfl ?_ | refine WR.val (Val.sllen Try.underlying23 rfl) rfl ?_
   refine qq (Val.addI rfl rfl (by first | omega | assumption | (simp; omega) | (simp; done)) (by first | omega | assumption | (simp; omega) | (simp; done))) rfl <| qq (Val.assign rfl) rfl <| cnil <| cseq <| cregion <| qq (Val.move rfl) rfl <| qq (Val.lss rfl rfl) rfl <| cnil ?_
   refine WC.cond rfl (fun hc6 => ?_) (fun hc6 => ?_)
   ·exfalso
    simp only [tstS] at hc6
    omega
   ·try simp only [tstS] at hc6
    refine cskip <| cregion <| qq (Val.addI rfl rfl (by first | omega | assumption | (simp; omega) | (simp; done)) (by first | omega | assumption | (simp; omega) | (simp; done))) rfl <| qq (Val.move rfl) rfl <| cnil ?_
    exact ⟨k + 1, (by rw [sum_take_succ _ ka, Int.natCast_add]; repeat (first | exact Sub.nil _ | refine Sub.cons rfl ?_ | refine Sub.consM rfl ?_)), ⟨h1, hK, hBw, ka⟩, by omega⟩
  ·try simp only [tstS] at hc3
   have : k = L.length := by omega
   subst this
   rw [List.take_length]
   have hBl := hBw
   refine WC.exit rfl ?_
   refine cseq <| cregion <| qq (Val.move rfl) rfl ?_
   refine WR.eff (Eff.call pf130 rfl (grow0_ok (L.map List.length).sum hT)) rfl ?_
   rintro v24 w1 ⟨hk1, ho24⟩
   replace h1 := h1.upB (hk1.mono hBw); replace hK := hK.upB (hk1.mono hBw); replace hBw := Nat.le_trans hBw hk1.size
   replace ho24 := ho24.base_le hBl
   refine qq (Val.assign rfl) rfl <| cnil <| cseq <| cseq <| cregion <| qq (Val.move rfl) rfl ?_
   first | refine WR.val (Val.rdlen sl98 (by assumption) rfl) rfl ?_ | refine WR.val (Val.sllen Try.underlying98 rfl) rfl ?_
   refine qq (Val.move rfl) rfl <| cnil <| cblock ?_
   refine WC.loop (σ := Nat × Value) (fun st => [(6, st.2), (25, v), (26, I L.length), (27, I st.1)]) (fun st w' => RdS strsS B w' v L ∧ Below B w w' ∧ B ≤ w'.heap.size ∧ st.1 ≤ L.length ∧ Own w' B 9 1 st.2 (L.take st.1).flatten.length ((L.take st.1).flatten.flatMap fun x => [St x])) (fun st => L.length - st.1) (0, v24) (by repeat (first | exact Sub.nil _ | refine Sub.cons rfl ?_ | refine Sub.consM rfl ?_)) ⟨h1, hK, hBw, by simp, ho24⟩ ?_
   clear hBw h1 hK ho24
   rintro ⟨k, v2⟩ wm ⟨h1, hK, hBw, hk, ho⟩
   dsimp only at h1 hK hk ho ⊢
   refine cseq <| cregion <| qq (Val.lss rfl rfl) rfl <| cnil <| cseq ?_
   refine WC.cond rfl (fun hc11 => ?_) (fun hc11 => ?_)
   ·try simp only [tstS] at hc11
    have ka : k < L.length := by omega
    obtain ⟨cs1, hc29, vi, rfl, hvi⟩ := h1.elB ka
    replace hc29 := hc29.toCel hBw
    have g1 : ((L.take k).map List.length).sum + L[k].length ≤ 1048576 := by
      rw [← sum_take_succ _ ka]; have := sum_take_le (L.map List.length) (k + 1); rw [← List.map_take] at this; omega
    rw [← flatten_length] at g1
    have hli := hvi.small
    refine cskip <| cseq <| cblock <| cseq <| cregion <| qq (Val.indexAddr sl98 (by assumption) rfl rfl rfl (by first | omega | assumption | (simp; omega) | (simp; done)) (by first | omega | assumption | (simp; omega) | (simp; done))) rfl <| qq (Val.loadE1 scl23 rfl hc29) rfl <| qq (Val.assign rfl) rfl <| cnil ?_
    refine cregion <| qq (Val.move rfl) rfl <| qq (Val.move rfl) rfl ?_
    refine WR.eff (Eff.append sl23 rfl rfl ho (Src.flat Try.underlying23 hvi) (by rw [maxLen_eq]; first | omega | (simp; omega)) (by first | omega | (simp; omega)) hBw) rfl ?_
    intro v33 w2 hA33
    have hk2 := hA33.belowB ho hBw
    replace h1 := h1.upB hk2; replace hK := hK.upB hk2; replace hvi := hvi.upB hk2; replace hBw := Nat.le_trans hBw hk2.size
    replace ho := hA33.own
    refine qq (Val.assign rfl) rfl <| cnil <| cregion <| qq (Val.addI rfl rfl (by first | omega | assumption | (simp; omega) | (simp; done)) (by first | omega | assumption | (simp; omega) | (simp; done))) rfl <| qq (Val.move rfl) rfl <| cnil ?_
    rw [← List.flatMap_append, ← List.length_append, ← flatten_take ka] at ho
    exact ⟨(k + 1, _), (by repeat (first | exact Sub.nil _ | refine Sub.cons rfl ?_ | refine Sub.consM rfl ?_)), ⟨h1, hK, hBw, ka, ho⟩, by dsimp only; omega⟩
   ·try simp only [tstS] at hc11
    have : k = L.length := by omega
    subst this
    rw [List.take_length] at ho
    refine WC.exit rfl ?_
    refine cseq <| cregion <| qq (Val.move rfl) rfl <| qq (Val.assign rfl) rfl <| cnil ?_
    refine WC.ret1 rfl rfl ?_
    exact ⟨hK, ho⟩

theorem bytesV_append (a b : List UInt8) : bytesV (a ++ b) = bytesV a ++ bytesV b := by simp [bytesV]
theorem rdPair {w : World} {c : Nat → Nat} {i b : Nat} {va vb : Value} {x y : List (List UInt8)} {T : TypeId} (hb : BlkC c w i b [va, vb] T) (h1 : Rd strS w va x) (h2 : Rd strS w vb y) : Rd strsS w (.slice (some ⟨b, 0, none⟩) 2 2) [x, y] :=
  Own.rd (s := strsS) (css := [[va], [vb]]) (by simp) (hb.own (n := 2) (size := 1) rfl (by decide)).own rfl rfl fun k cs z h3 h4 => by
    rcases k with _ | _ | k
    · injection h3 with h3; injection h4 with h4; subst h3 h4; exact ⟨va, rfl, h1⟩
    · injection h3 with h3; injection h4 with h4; subst h3 h4; exact ⟨vb, rfl, h2⟩
    · cases h3

set_option maxHeartbeats 1000000 in
theorem mspelt_ok {w : World} {cs : List Value} {m : Man} (h : RdMan w cs m) (hm : manMay m = true) : Calls Try.prog 73 #[.agg cs.toArray] w (Ret fun v w' => Below w.heap.size w w' ∧ v = St (manBytes m)) := by
  obtain ⟨vb, vs, rfl, hb0, hs0, hq⟩ := h
  obtain ⟨⟨k0, k1⟩, hl20, hr1, hr2⟩ := (manMay_iff m).1 hm
  have f1 := risingB_len hr1; have f2 := risingB_len hr2
  obtain ⟨A1, p1, rfl, _⟩ := hb0.form
  obtain ⟨A2, p2, rfl, _⟩ := hs0.form
  obtain ⟨c, hO, hc⟩ := OldC.start w
  have hb : RdC strS c w [0] _ m.blobs := Rd.toC hb0 (fun k hk => by simp [hc, hasC])
  have hs : RdC strS c w [0] _ m.subs := Rd.toC hs0 (fun k hk => by simp [hc, hasC])
  clear hc hb0 hs0
  refine enter (n := 38) (res := #[.tmp 2]) Try.func73 rfl rfl rfl rfl ?_
  refine cseq <| cregion ?_
  refine WR.eff (Eff.boxC c 101 rfl) rfl ?_
  rintro _ w1 ⟨b1, c1, rfl, hM1, hb1⟩
  replace hO := hO.mv hM1 rfl; replace hb := hb.mv hM1 rfl; replace hs := hs.mv hM1 rfl
  refine qq (Val.assign rfl) rfl <| cnil <| cseq <| cregion ?_
  refine WR.eff (Eff.buildC c1 8 sl68 rfl rfl rfl (by simp [Value.cells]) rfl rfl) rfl ?_
  rintro _ w2 ⟨b6, c2, rfl, hM2, hb6⟩
  replace hO := hO.mv hM2 rfl; replace hb := hb.mv hM2 rfl; replace hs := hs.mv hM2 rfl; replace hb1 := hb1.mv hM2 rfl
  refine WR.eff ((Eff.convBytesC Try.underlying68 Try.underlying5 rfl hb6 rfl (by decide))) rfl ?_
  rintro v7 w3 ⟨c3, hM3, rfl, ho7⟩
  replace hO := hO.mv hM3 rfl; replace hb := hb.mv hM3 rfl; replace hs := hs.mv hM3 rfl; replace hb1 := hb1.mv hM3 rfl
  first | refine WR.val (Val.fieldAddr fld29_0 rfl) rfl ?_ | refine WR.val (Val.fieldAddrP fld29_0 rfl) rfl ?_
  refine qq (Val.loadB scl3 rfl hb1.blk rfl) rfl <| qq (Val.convToU8I Try.underlying3 Try.underlying5 rfl) rfl ?_
  first | refine WR.val (Val.fieldAddr fld29_1 rfl) rfl ?_ | refine WR.val (Val.fieldAddrP fld29_1 rfl) rfl ?_
  refine qq (Val.loadB scl23 rfl hb1.blk rfl) rfl <| qq (Val.rdlen sl23 hb.now rfl) rfl <| qq (Val.convToU8I Try.underlying3 Try.underlying5 rfl) rfl ?_
  first | refine WR.val (Val.fieldAddr fld29_2 rfl) rfl ?_ | refine WR.val (Val.fieldAddrP fld29_2 rfl) rfl ?_
  refine qq (Val.loadB scl23 rfl hb1.blk rfl) rfl <| qq (Val.rdlen sl23 hs.now rfl) rfl <| qq (Val.convToU8I Try.underlying3 Try.underlying5 rfl) rfl ?_
  refine WR.eff (Eff.buildC c3 119 sl68 rfl rfl rfl (by simp [Value.cells]) rfl rfl) rfl ?_
  rintro _ w4 ⟨b19, c4, rfl, hM4, hb19⟩
  replace hO := hO.mv hM4 rfl; replace hb := hb.mv hM4 rfl; replace hs := hs.mv hM4 rfl; replace hb1 := hb1.mv hM4 rfl; replace ho7 := ho7.mv hM4 rfl
  refine WR.eff (Eff.appendC sl68 rfl rfl ho7 (Src.cellsAt Try.underlying68 hb19.blk.cellsAt rfl (by repeat (first | exact List.forall_mem_nil _ | refine List.forall_mem_cons.2 ⟨by first | rfl | assumption, ?_⟩))) (by rw [maxLen_eq]; first | omega | (simp; omega)) (by first | omega | (simp; omega))) rfl ?_
  rintro v20 w5 ⟨c5, hM5, hOq⟩
  clear hb19
  replace hO := hO.mv hM5 rfl; replace hb := hb.mv hM5 rfl; replace hs := hs.mv hM5 rfl; replace hb1 := hb1.mv hM5 rfl
  replace ho7 := hOq
  refine qq (Val.assign rfl) rfl <| cnil <| cseq <| cseq ?_
  replace ho7 : OwnC _ _ 8 5 1 _ 7 (bytesV (manHead m)) := ho7
  refine cregion ?_
  first | refine WR.val (Val.fieldAddr fld29_1 rfl) rfl ?_ | refine WR.val (Val.fieldAddrP fld29_1 rfl) rfl ?_
  refine qq (Val.loadB scl23 rfl hb1.blk rfl) rfl ?_
  first | refine WR.val (Val.fieldAddr fld29_2 rfl) rfl ?_ | refine WR.val (Val.fieldAddrP fld29_2 rfl) rfl ?_
  refine qq (Val.loadB scl23 rfl hb1.blk rfl) rfl ?_
  refine WR.eff (Eff.buildC c5 125 sl98 rfl rfl rfl (by simp [Value.cells]) rfl rfl) rfl ?_
  rintro _ w6 ⟨b25, c6, rfl, hM6, hb25⟩
  replace hO := hO.mv hM6 rfl; replace hb := hb.mv hM6 rfl; replace hs := hs.mv hM6 rfl; replace hb1 := hb1.mv hM6 rfl; replace ho7 := ho7.mv hM6 rfl
  refine WR.eff (Eff.pureC c6 126 (Eff.call pf111 rfl (concat_ok (rdPair hb25 hb.now hs.now) (by simp; omega)))) rfl ?_
  rintro v26 w7 ⟨c7, hM7, hx7, ho26⟩
  replace hO := hO.mv hM7 rfl; replace hb := hb.mv hM7 rfl; replace hs := hs.mv hM7 rfl; replace hb1 := hb1.mv hM7 rfl; replace ho7 := ho7.mv hM7 rfl; replace hb25 := hb25.mv hM7 rfl
  replace ho26 := ho26.toC hx7
  first | refine WR.val (Val.rdlen sl23 (by assumption) rfl) rfl ?_ | refine WR.val (Val.sllen Try.underlying23 rfl) rfl ?_ | refine WR.val (Val.olen sl23 (by assumption) rfl) rfl ?_ | refine WR.val (Val.rdlenC sl23 (by assumption) rfl) rfl ?_
  refine qq (Val.move rfl) rfl <| cnil <| cblock ?_
  have hlen : [m.blobs, m.subs].flatten.length ≤ 20 := by simp; exact hl20
  have hok : ∀ x ∈ [m.blobs, m.subs].flatten, x.length = 32 := fun x hx => by
    simp at hx
    exact hx.elim (f1 x) (f2 x)
  have hfl : [m.blobs, m.subs].flatten.flatten = m.blobs.flatten ++ m.subs.flatten := by simp
  generalize [m.blobs, m.subs].flatten = D at hlen hok hfl ho26 ⊢
  have hD : RdC strS _ _ [126] v26 D := ho26.rdFlat (by omega) (fun x hx => by rw [hok x hx]; decide)
  refine WC.loop (σ := Nat × Value) (fun st => [(3, st.2), (26, v26), (27, I D.length), (28, I st.1)]) (fun st w' => ∃ c', OldC w c' w' ∧ RdC strS c' w' [126] v26 D ∧ OwnC c' w' 8 5 1 st.2 (manHead m ++ (D.take st.1).flatten).length (bytesV (manHead m ++ (D.take st.1).flatten)) ∧ st.1 ≤ D.length) (fun st => D.length - st.1) (0, v20) (by repeat (first | exact Sub.nil _ | refine Sub.cons rfl ?_ | refine Sub.consM rfl ?_)) ⟨_, hO, hD, by simp only [List.take_zero, List.flatten_nil, List.append_nil]; exact ho7, by simp⟩ ?_
  clear hO hb hs hb1 ho7 hb25 ho26 hD
  rintro ⟨k, vv⟩ wl ⟨cl, hO, hD, ho, hk⟩
  dsimp only at hO hD hk ho ⊢
  refine cseq ?_
  skip
  refine cregion <| qq (Val.lss rfl rfl) rfl <| cnil <| cseq ?_
  refine WC.cond rfl (fun hc3 => ?_) (fun hc3 => ?_)
  ·try simp only [tstS] at hc3
   have ka : k < D.length := by omega
   obtain ⟨hc30, ok1⟩ := RdC.elFlat hD ka (by decide)
   have g2 := hok _ (List.getElem_mem ka)
   have g1 : (manHead m ++ (D.take k).flatten).length = 7 + 32 * k := by
     rw [List.length_append, flat32 (fun x hx => hok x (List.mem_of_mem_take hx)), List.length_take]; simp [manHead]; omega
   refine cskip <| cseq <| cblock <| cseq <| cregion <| qq (Val.indexAddr sl23 hD.now rfl rfl rfl (by omega) (by omega)) rfl <| qq (Val.loadE1 scl9 rfl hc30.cel) rfl <| qq (Val.assign rfl) rfl <| cnil ?_
   refine cregion <| qq (Val.move rfl) rfl <| qq (Val.move rfl) rfl ?_
   refine WR.eff (Eff.appendC sl68 rfl rfl ho (Src.str Try.underlying9) (by rw [maxLen_eq]; first | omega | (simp; omega)) (by first | omega | (simp; omega))) rfl ?_
   rintro v34 w8 ⟨c8, hM8, hOq⟩
   replace hO := hO.mv hM8 rfl; replace hD := hD.mv hM8 rfl; replace hc30 := hc30.mv hM8 rfl
   replace ho := hOq
   refine qq (Val.assign rfl) rfl <| cnil <| cregion <| qq (Val.addI rfl rfl (by first | omega | assumption | (simp; omega) | (simp; done)) (by first | omega | assumption | (simp; omega) | (simp; done))) rfl <| qq (Val.move rfl) rfl <| cnil ?_
   rw [show (D[k].map fun b => Value.int .u8 b.toNat) = bytesV D[k] from rfl, ← bytesV_append, ← List.length_append, List.append_assoc, ← flatten_take ka] at ho
   exact ⟨(k + 1, _), (by repeat (first | exact Sub.nil _ | refine Sub.cons rfl ?_ | refine Sub.consM rfl ?_)), ⟨_, hO, hD, ho, ka⟩, by dsimp only; omega⟩
  ·try simp only [tstS] at hc3
   have : k = D.length := by omega
   subst this
   rw [List.take_length, hfl, ← List.append_assoc, ← manBytes_eq] at ho
   refine WC.exit rfl ?_
   refine cseq <| cregion <| qq (Val.move rfl) rfl <| qq (Val.ofBytes Try.underlying68 Try.underlying9 Try.underlying5 rfl ho.own) rfl <| qq (Val.assign rfl) rfl <| cnil ?_
   refine WC.ret1 rfl rfl ?_
   exact ⟨hO.below, rfl⟩

theorem mbytes_ok {w : World} {cs : List Value} {m : Man} (h : RdMan w cs m) : Calls Try.prog 18 #[.agg cs.toArray] w (Ret fun v w' => Below w.heap.size w w' ∧ v = .tuple #[St (if manMay m then manBytes m else []), I (if manMay m then 0 else 1)]) := by
  obtain ⟨vb, vs, rfl, hb, hs, hq⟩ := h
  have hK : Old w w := Old.refl w
  have o1 := hb.oneC; have o2 := hs.oneC
  replace hb : Rd strS w vb m.blobs := hb; replace hs : Rd strS w vs m.subs := hs
  refine enter (n := 9) (res := #[.tmp 2, .tmp 3]) Try.func18 rfl rfl rfl rfl ?_
  refine cseq <| cregion ?_
  refine WR.eff (Eff.box rfl) rfl ?_
  rintro _ w1 ⟨b1, rfl, hn1⟩
  have hk1 := hn1.below
  replace hb := hb.up hk1; replace hs := hs.up hk1; replace hK := hK.up hk1
  have hb1 := hn1.blk
  refine qq (Val.assign rfl) rfl <| qq (Val.assign rfl) rfl <| cnil <| cseq <| cseq <| cregion <| qq (Val.loadBN agg29 rfl hb1 rfl) rfl ?_
  refine WR.eff (Eff.call pf72 rfl (mmay_ok (m := m) ⟨vb, vs, rfl, hb, hs, hq⟩)) rfl ?_
  rintro v5 w2 ⟨hk2, rfl⟩
  replace hb := hb.up hk2; replace hs := hs.up hk2; replace hK := hK.up hk2; replace hb1 := hb1.up hk2
  refine qq (Val.not rfl) rfl <| cnil ?_
  refine WC.cond rfl (fun hc1 => ?_) (fun hc1 => ?_)
  ·try simp only [tstS] at hc1
   refine cseq <| cregion <| qq (Val.assign rfl) rfl <| qq (Val.assign rfl) rfl <| cnil ?_
   refine WC.ret2 rfl rfl rfl ?_
   exact ⟨hK, by rw [hc1]; rfl⟩
  ·try simp only [tstS] at hc1
   refine cskip <| cseq <| cregion <| qq (Val.loadBN agg29 rfl hb1 rfl) rfl ?_
   refine WR.eff (Eff.call pf73 rfl (mspelt_ok (m := m) ⟨vb, vs, rfl, hb, hs, hq⟩ hc1)) rfl ?_
   rintro v8 w3 ⟨hk3, rfl⟩
   replace hb := hb.up hk3; replace hs := hs.up hk3; replace hK := hK.up hk3; replace hb1 := hb1.up hk3
   refine qq (Val.assign rfl) rfl <| qq (Val.assign rfl) rfl <| cnil ?_
   refine WC.ret2 rfl rfl rfl ?_
   exact ⟨hK, by rw [hc1]; rfl⟩

theorem mname_ok {w : World} {cs : List Value} {m : Man} (h : RdMan w cs m) : Calls Try.prog 19 #[.agg cs.toArray] w (Ret fun v w' => Below w.heap.size w w' ∧ v = .tuple #[St (if manMay m then digestS (manBytes m) else []), I (if manMay m then 0 else 1)]) := by
  obtain ⟨vb, vs, rfl, hb, hs, hq⟩ := h
  have hK : Old w w := Old.refl w
  have o1 := hb.oneC; have o2 := hs.oneC
  replace hb : Rd strS w vb m.blobs := hb; replace hs : Rd strS w vs m.subs := hs
  refine enter (n := 16) (res := #[.tmp 2, .tmp 3]) Try.func19 rfl rfl rfl rfl ?_
  refine cseq <| cregion ?_
  refine WR.eff (Eff.box rfl) rfl ?_
  rintro _ w1 ⟨b1, rfl, hn1⟩
  have hk1 := hn1.below
  replace hb := hb.up hk1; replace hs := hs.up hk1; replace hK := hK.up hk1
  have hb1 := hn1.blk
  refine qq (Val.assign rfl) rfl <| qq (Val.assign rfl) rfl <| cnil <| cseq <| cregion <| qq (Val.loadBN agg29 rfl hb1 rfl) rfl ?_
  refine WR.eff (Eff.call pf18 rfl (mbytes_ok (m := m) ⟨vb, vs, rfl, hb, hs, hq⟩)) rfl ?_
  rintro v8 w2 ⟨hk2, rfl⟩
  replace hb := hb.up hk2; replace hs := hs.up hk2; replace hK := hK.up hk2; replace hb1 := hb1.up hk2
  refine qq (Val.move rfl) rfl <| qq (Val.extract rfl rfl) rfl <| qq (Val.extract rfl rfl) rfl <| qq (Val.assign rfl) rfl <| qq (Val.assign rfl) rfl <| cnil <| cseq <| cseq <| cregion ?_
  refine qq (Val.move rfl) rfl <| qq (Val.neq rfl rfl) rfl <| cnil ?_
  refine WC.cond rfl (fun hc2 => ?_) (fun hc2 => ?_)
  ·try simp only [tstS] at hc2
   have hm : manMay m = false := by cases hm : manMay m <;> simp [hm] at hc2 ⊢
   rw [hm]
   refine cseq <| cregion <| qq (Val.move rfl) rfl <| qq (Val.assign rfl) rfl <| qq (Val.assign rfl) rfl <| cnil ?_
   refine WC.ret2 rfl rfl rfl ?_
   exact ⟨hK, by first | rfl | (simp; rfl) | simp⟩
  ·try simp only [tstS] at hc2
   have hm : manMay m = true := by cases hm : manMay m <;> simp [hm] at hc2 ⊢
   rw [hm]
   refine cskip <| cseq <| cregion <| qq (Val.move rfl) rfl ?_
   refine WR.eff (Eff.call pf74 rfl (of_ok (manBytes m) (by rw [manBytes_len hm]; have := ((manMay_iff m).1 hm).2.1; omega))) rfl ?_
   rintro v15 w3 ⟨hk3, rfl⟩
   replace hb := hb.up hk3; replace hs := hs.up hk3; replace hK := hK.up hk3; replace hb1 := hb1.up hk3
   refine qq (Val.assign rfl) rfl <| qq (Val.assign rfl) rfl <| cnil ?_
   refine WC.ret2 rfl rfl rfl ?_
   exact ⟨hK, by first | rfl | (simp; rfl) | simp⟩
end Go.Proofs.Ytnddlhjafkhdoaa

namespace Silo
open Go Go.Eng
theorem chunks_take : ∀ (n k : Nat) (s : List UInt8), (chunks (n + k) s).take n = chunks n s
  | 0, _, _ => by simp [chunks]
  | n + 1, k, s => by rw [show n + 1 + k = (n + k) + 1 by omega]; simp only [chunks, List.take_succ_cons]; rw [chunks_take n k]
theorem chunks_drop : ∀ (n k : Nat) (s : List UInt8), (chunks (n + k) s).drop n = chunks k (s.drop (32 * n))
  | 0, k, s => by simp
  | n + 1, k, s => by
    rw [show n + 1 + k = (n + k) + 1 by omega]
    simp only [chunks, List.drop_succ_cons]
    rw [chunks_drop n k, List.drop_drop]
    congr 2; omega
theorem chunks_mem : ∀ (k : Nat) (s : List UInt8), ∀ x ∈ chunks k s, x.length ≤ 32
  | 0, _, _, h => by cases h
  | k + 1, s, x, h => by
    simp only [chunks, List.mem_cons] at h
    rcases h with rfl | h
    · rw [List.length_take]; omega
    · exact chunks_mem k _ x h
theorem at_get {s : List UInt8} {i : Nat} (h : i < s.length) : at_ s i = s[i].toNat := by rw [at_, getD_lt h]
theorem at_lt (s : List UInt8) (i : Nat) : at_ s i < 256 := UInt8.toNat_lt _
theorem manTake_no {s : List UInt8} (h : ¬ (7 ≤ s.length ∧ s.take 4 = [77, 65, 78, 70] ∧ s.length = 7 + 32 * (at_ s 5 + at_ s 6))) : manTake s = none := by rw [manTake, if_neg h]
theorem manTake_may {s : List UInt8} (h : 7 ≤ s.length ∧ s.take 4 = [77, 65, 78, 70] ∧ s.length = 7 + 32 * (at_ s 5 + at_ s 6)) : manTake s = if manMay (manOf s) then some (manOf s) else none := by rw [manTake, if_pos h]
end Silo
namespace Go.Eng
open Go Go.RowKit Silo
theorem flatSt (l : List (List UInt8)) : l.map (Value.string ∘ fun x => ByteArray.mk x.toArray) = l.flatMap fun x => [St x] := by
  induction l with
  | nil => rfl
  | cons a r ih => simp only [List.map_cons, List.flatMap_cons, ih]; rfl
/-- A slice whose elements, if there are any, lie in a row. -/
def PlainV (v : Value) : Prop := ∃ A n c, v = .slice A n c ∧ (0 < n → ∃ b off, A = some ⟨b, off, none⟩)
theorem PlainV.sub {A : Option Addr} {n c lo hi sz : Nat} (h : 0 < n → ∃ b off, A = some ⟨b, off, none⟩) (hh : hi ≤ n) : PlainV (subV (.slice A n c) lo hi sz) := by
  refine ⟨_, _, _, rfl, fun hp => ?_⟩
  obtain ⟨b, off, rfl⟩ := h (by omega)
  by_cases hc : c = lo
  · rw [if_pos hc]; exact ⟨_, _, rfl⟩
  · rw [if_neg hc]; exact ⟨_, _, by rw [Option.map_some, add_lit]⟩
theorem Own.formA {w : World} {base : Nat} {e : TypeId} {size n : Nat} {v : Value} {xs : List Value} (h : Own w base e size v n xs) : ∃ A c, v = .slice A n c ∧ n ≤ c ∧ (0 < n → ∃ b off, A = some ⟨b, off, none⟩) := by
  rcases h.2 with ⟨rfl, A, rfl⟩ | ⟨g, cap, cur, fz, rfl, _, _, _, hc, _⟩
  · exact ⟨A, 0, rfl, Nat.le_refl _, fun h => absurd h (Nat.lt_irrefl _)⟩
  · exact ⟨_, cap, rfl, hc, fun _ => ⟨_, _, rfl⟩⟩
theorem Own.ofRow {w : World} {base : Nat} {e : TypeId} {size n : Nat} {v : Value} {xs : List Value} (h : w.ownsRow base e size v n xs) : Own w base e size v n xs := by
  obtain ⟨hl, h⟩ := h
  rcases h with ⟨rfl, rfl⟩ | ⟨g, cap, cur, rfl, h1, h2, h3, h4, h5, h6⟩
  · exact ⟨hl, .inl ⟨rfl, _, rfl⟩⟩
  · exact ⟨hl, ownIn ⟨g, cap, cur, (0, 0), rfl, h1, h2, fun h => by simp at h, h3, h4, h5, h6⟩⟩
end Go.Eng
namespace Go.Eng
open Go Go.RowKit
/-- What is of a colour of its own lies behind the call's beginning. -/
theorem OwnC.fromOld {c : Nat → Nat} {w w' : World} {i n size : Nat} {e : TypeId} {u : Value} {xs : List Value} (hO : OldC w c w') (h : OwnC c w' i e size u n xs) (hi : i ≠ 0) : Own w' w.heap.size e size u n xs := by
  obtain ⟨hl, h1⟩ := h.own
  refine ⟨hl, ?_⟩
  rcases h1 with h1 | ⟨g, cap, cur, fz, rfl, hb, h2, h3, h4, h5, h6, h7, h8⟩
  · exact .inl h1
  · refine .inr ⟨g, cap, cur, fz, rfl, ?_, h2, h3, h4, h5, h6, h7, h8⟩
    rcases Nat.lt_or_ge g w.heap.size with hg | hg
    · have h9 := hO.col g hg
      rw [h.col g (rowOf_slice h8)] at h9
      exact (hi h9).elim
    · exact hg
end Go.Eng
namespace Go.Proofs.Ytnddlhjafkhdoaa
open Go Go.Eng Go.RowKit Silo TryT

theorem cloneStrs_ok {w : World} {v : Value} {l : List (List UInt8)} (h : Rd strS w v l) (hp : PlainV v) (hl : l.length * 16 ≤ 140737488355328) : Calls Try.prog 76 #[v] w (Ret fun v' w' => Below w.heap.size w w' ∧ Own w' w.heap.size 9 1 v' l.length (l.flatMap fun x => [St x])) := by
  obtain ⟨A, n, c, rfl, hA⟩ := hp
  have hn : l.length = n := by obtain ⟨A', c', he, _⟩ := h.form; injection he with _ he _; exact he.symm
  subst hn
  cases A with
  | none =>
    have h0 : l = [] := by
      cases l with
      | nil => rfl
      | cons a r => obtain ⟨b, off, h⟩ := hA (by simp); cases h
    subst h0
    refine (Try.slices_Clone_string_nil _ c w).mono fun e w' he => ?_
    obtain ⟨rfl, rfl⟩ := he
    exact ⟨_, rfl, Below.refl _ _, Own.nil _ _ _ _⟩
  | some a =>
    rcases Nat.eq_zero_or_pos l.length with h0 | h0
    · have h0' : l = [] := List.eq_nil_of_length_eq_zero h0
      subst h0'
      refine (Try.slices_Clone_string_zero a c w).mono fun e w' he => ?_
      obtain ⟨v', rfl, h1, _, h2⟩ := he
      exact ⟨_, rfl, h2, Own.ofRow h1⟩
    · obtain ⟨b, off, hA⟩ := hA h0
      injection hA with hA
      subst hA
      refine (Try.slices_Clone_string b off l.length c (l.map fun x => ⟨x.toArray⟩) w (by simp) hl fun j hj => ?_).mono fun e w' he => ?_
      · have hj' : j < l.length := by simpa using hj
        obtain ⟨cs, hc, rfl, _⟩ := h.el hj'
        have := hc.1 0 (St l[j]) rfl
        rw [List.getD_eq_getElem?_getD, List.getElem?_map, List.getElem?_eq_getElem hj']
        simpa [elemA, add_lit, strS, Shape.flat] using this
      · obtain ⟨v', rfl, h1, _, h2⟩ := he
        refine ⟨_, rfl, h2, ?_⟩
        have := Own.ofRow h1
        rwa [List.take_of_length_le (by simp), List.map_map, flatSt l] at this
theorem rdMan0 (w : World) : RdMan w [I 0, .slice none 0 0, .slice none 0 0] man0 := ⟨_, _, rfl, RdS.nil _ _ _, RdS.nil _ _ _, by simp [man0], by simp [man0]⟩

set_option maxHeartbeats 1000000 in
theorem mtake_own {w : World} (s : List UInt8) (hs : s.length ≤ 1048576) :
    Calls Try.prog 25 #[St s] w (Ret fun v w' => Below w.heap.size w w' ∧ ∃ u1 u2, v = .tuple #[.agg #[I ((manTake s).getD man0).kind, u1, u2], I (if (manTake s).isSome then 0 else 7)] ∧ Own w' w.heap.size 9 1 u1 ((manTake s).getD man0).blobs.length (((manTake s).getD man0).blobs.flatMap fun x => [St x]) ∧ Own w' w.heap.size 9 1 u2 ((manTake s).getD man0).subs.length (((manTake s).getD man0).subs.flatMap fun x => [St x])) := by
  obtain ⟨c, hO, hc⟩ := OldC.start w
  clear hc
  refine enter (n := 68) (res := #[.cell 2 29, .tmp 3]) Try.func25 rfl rfl rfl rfl ?_
  refine cseq <| cregion ?_
  refine WR.eff (Eff.allocC c 102 zero29) rfl ?_
  rintro _ w1 ⟨b2, c1, rfl, hM1, hb2⟩
  replace hO := hO.mv hM1 rfl
  refine qq (Val.assign rfl) rfl <| cnil <| cseq <| cseq <| cregion <| qq (Val.move rfl) rfl <| qq (Val.slen Try.underlying9 rfl) rfl <| qq (Val.lss rfl rfl) rfl <| qq (Val.move rfl) rfl ?_
  apply WR.sc false 4 _ (fun w' => w1 = w')
  case hl => rfl
  case hg => rfl
  case hu => rfl
  case hv => rfl
  case hs => rfl
  case hoff => rfl
  case hd => rfl
  case hF => exact fun _ => rfl
  case hT =>
   intro hq8
   try simp only [tstS] at hq8
   simp only [List.take_succ_cons, List.take_zero]
   refine WR.on rfl rfl ?_
   refine qq (Val.move rfl) rfl ?_
   refine WR.on rfl rfl ?_
   refine qq (Val.slen Try.underlying9 rfl) rfl ?_
   refine WR.on rfl rfl ?_
   refine qq (Val.remI rfl rfl (by first | omega | assumption | (simp; omega) | (simp; done)) (by first | omega | assumption | (simp; omega) | (simp; done))) rfl ?_
   refine WR.on rfl rfl ?_
   refine qq (Val.neq rfl rfl) rfl ?_
   exact WR.nil ⟨rfl, Sub.drop _ 4 _ rfl rfl, rfl⟩
  rintro _ rfl
  refine qq (Val.move rfl) rfl ?_
  apply WR.sc false 3 _ (fun w' => w1 = w')
  case hl => rfl
  case hg => rfl
  case hu => rfl
  case hv => rfl
  case hs => rfl
  case hoff => rfl
  case hd => rfl
  case hF => exact fun _ => rfl
  case hT =>
   intro hq13
   try simp only [tstS] at hq13
   simp only [List.take_succ_cons, List.take_zero]
   refine WR.on rfl rfl ?_
   refine qq (Val.move rfl) rfl ?_
   refine WR.on rfl rfl ?_
   refine qq (Val.ssliceTo Try.underlying9 rfl rfl (by first | omega | assumption | (simp; omega) | (simp; done)) (by first | omega | assumption | (simp; omega) | (simp; done))) rfl ?_
   refine WR.on rfl rfl ?_
   refine qq (Val.sne rfl rfl) rfl ?_
   exact WR.nil ⟨rfl, Sub.drop _ 3 _ rfl rfl, rfl⟩
  rintro _ rfl
  refine cnil ?_
  refine WC.cond rfl (fun hc1 => ?_) (fun hc1 => ?_)
  ·try simp only [tstS] at hc1
   have hno : manTake s = none := manTake_no (by
     rintro ⟨h1, h2, h3⟩
     rcases hc1 with (h | h) | h
     · omega
     · omega
     · rw [show Int.toNat 4 = 4 from rfl, h2] at h; simp at h)
   refine cseq <| cregion <| qq (Val.build (cells := #[I 0, .slice none 0 0, .slice none 0 0]) rfl (by kernel_rfl)) rfl ?_
   refine WR.eff_ (Eff.storeNC agg29 rfl rfl hb2 rfl rfl (by repeat (first | exact List.forall_mem_nil _ | refine List.forall_mem_cons.2 ⟨by first | rfl | assumption, ?_⟩))) ?_
   rintro _ w2 ⟨hS, hM2⟩
   replace hO := hO.mv hM2 rfl
   replace hb2 := hS
   refine qq (Val.assign rfl) rfl <| cnil ?_
   refine WC.retR2 rfl (RVal.cellN agg29 rfl hb2.blk rfl) (RVal.tmp rfl) ?_
   exact ⟨hO.below, _, _, by rw [hno]; rfl, by rw [hno]; exact Own.nil _ _ _ _, by rw [hno]; exact Own.nil _ _ _ _⟩
  ·try simp only [tstS] at hc1
   obtain ⟨h7, h32, h4⟩ : 7 ≤ s.length ∧ s.length % 32 = 7 ∧ s.take 4 = [77, 65, 78, 70] := ⟨by omega, by omega, by simpa using hc1.2⟩
   obtain ⟨K, hK⟩ : ∃ K, s.length = 7 + 32 * K := ⟨(s.length - 7) / 32, by omega⟩
   have hl4 : 4 < s.length := by omega
   have hl5 : 5 < s.length := by omega
   have hl6 : 6 < s.length := by omega
   clear hc1
   have hu5 := s[5].toNat_lt; have hu6 := s[6].toNat_lt; have hu4 := s[4].toNat_lt
   refine cskip <| cseq <| cregion <| qq (Val.move rfl) rfl <| qq (Val.sindex Try.underlying9 rfl rfl (by omega) (List.getElem?_eq_getElem hl4)) rfl <| qq (Val.convU8 Try.underlying5 Try.underlying3 rfl) rfl <| qq (Val.build (cells := #[I s[4].toNat, .slice none 0 0, .slice none 0 0]) rfl (by kernel_rfl)) rfl ?_
   refine WR.eff (Eff.allocC c1 104 zero29) rfl ?_
   rintro _ w3 ⟨b4, c3, rfl, hM3, hb4⟩
   replace hO := hO.mv hM3 rfl; replace hb2 := hb2.mv hM3 rfl
   refine WR.eff_ (Eff.storeNC agg29 rfl rfl hb4 rfl rfl (by repeat (first | exact List.forall_mem_nil _ | refine List.forall_mem_cons.2 ⟨by first | rfl | assumption, ?_⟩))) ?_
   rintro _ w4 ⟨hS, hM4⟩
   replace hO := hO.mv hM4 rfl; replace hb2 := hb2.mv hM4 rfl
   replace hb4 := hS
   refine cnil <| cseq <| cregion <| qq (Val.assign rfl) rfl <| cnil <| cseq <| cseq <| cregion <| qq (Val.assign rfl) rfl ?_
   refine cnil <| cblock ?_
   refine WC.loop (σ := Nat × Value) (fun st => [(0, St s), (2, .pointer (some ⟨b2, 0, none⟩)), (4, .pointer (some ⟨b4, 0, none⟩)), (5, st.2), (6, I (7 + 32 * st.1 : Nat))]) (fun st w' => ∃ c', OldC w c' w' ∧ BlkC c' w' 102 b2 [I 0, .slice none 0 0, .slice none 0 0] 29 ∧ BlkC c' w' 104 b4 [I s[4].toNat, .slice none 0 0, .slice none 0 0] 29 ∧ OwnC c' w' 5 9 1 st.2 (chunks st.1 (s.drop 7)).length ((chunks st.1 (s.drop 7)).flatMap fun x => [St x]) ∧ st.1 ≤ K) (fun st => K - st.1) (0, .slice none 0 0) (by repeat (first | exact Sub.nil _ | refine Sub.cons rfl ?_ | refine Sub.consM rfl ?_)) ⟨_, hO, hb2, hb4, OwnC.nil _ _ _ _ _, by simp⟩ ?_
   clear hO hb2 hb4
   rintro ⟨k, v⟩ wl ⟨cl, hO, hb2, hb4, ho, hk⟩
   dsimp only at hO hb2 hb4 ho hk ⊢
   have hlk := chunks_length k (s.drop 7)
   refine cseq <| cseq <| cregion <| qq (Val.move rfl) rfl <| qq (Val.move rfl) rfl <| qq (Val.slen Try.underlying9 rfl) rfl <| qq (Val.lss rfl rfl) rfl <| cnil ?_
   refine WC.cond rfl (fun hc6 => ?_) (fun hc6 => ?_)
   ·try simp only [tstS] at hc6
    have hk8 : k < K := by omega
    refine cskip <| cseq <| cblock <| cregion <| qq (Val.move rfl) rfl <| qq (Val.move rfl) rfl <| qq (Val.move rfl) rfl <| qq (Val.move rfl) rfl <| qq (Val.addI rfl rfl (by first | omega | assumption | (simp; omega) | (simp; done)) (by first | omega | assumption | (simp; omega) | (simp; done))) rfl ?_
    refine qq (Val.sslice Try.underlying9 rfl rfl rfl (by omega) (by omega) (by omega)) rfl ?_
    refine WR.eff (Eff.build1C cl 139 sl23 rfl rfl rfl rfl rfl) rfl ?_
    rintro _ w5 ⟨b39, c5, rfl, hM5, hb39⟩
    replace hO := hO.mv hM5 rfl; replace hb2 := hb2.mv hM5 rfl; replace hb4 := hb4.mv hM5 rfl; replace ho := ho.mv hM5 rfl
    refine WR.eff (Eff.appendC sl23 rfl rfl ho (Src.cellsAt Try.underlying23 hb39.blk.cellsAt rfl (by repeat (first | exact List.forall_mem_nil _ | refine List.forall_mem_cons.2 ⟨by first | rfl | assumption, ?_⟩))) (by rw [maxLen_eq]; first | omega | (simp; omega)) (by first | omega | (simp; omega))) rfl ?_
    rintro v40 w6 ⟨c6, hM6, hOq⟩
    clear hb39
    replace hO := hO.mv hM6 rfl; replace hb2 := hb2.mv hM6 rfl; replace hb4 := hb4.mv hM6 rfl
    replace ho := hOq
    refine qq (Val.assign rfl) rfl <| cnil <| cregion <| qq (Val.move rfl) rfl <| qq (Val.addI rfl rfl (by first | omega | assumption | (simp; omega) | (simp; done)) (by first | omega | assumption | (simp; omega) | (simp; done))) rfl <| qq (Val.assign rfl) rfl <| cnil ?_
    have e1 : ((7 + 32 * k : Nat) : Int) + 32 = ((7 + 32 * (k + 1) : Nat) : Int) := by omega
    have e2 : (((7 + 32 * k : Nat) : Int) + 32).toNat - ((7 + 32 * k : Nat) : Int).toNat = 32 := by omega
    have e3 : (chunks k (s.drop 7)).flatMap (fun x => [St x]) ++ [St ((s.drop ((7 + 32 * k : Nat) : Int).toNat).take 32)] = (chunks (k + 1) (s.drop 7)).flatMap (fun x => [St x]) := by
      rw [chunks_snoc, List.flatMap_append, List.drop_drop, Int.toNat_natCast]; rfl
    have e4 : (chunks k (s.drop 7)).length + 1 = (chunks (k + 1) (s.drop 7)).length := by rw [chunks_length, chunks_length]
    rw [e2, e3, e4] at ho
    exact ⟨(k + 1, _), (by rw [← e1]; repeat (first | exact Sub.nil _ | refine Sub.cons rfl ?_ | refine Sub.consM rfl ?_)), ⟨_, hO, hb2, hb4, ho, hk8⟩, by dsimp only; omega⟩
   ·try simp only [tstS] at hc6
    have : k = K := by omega
    subst this
    refine WC.exit rfl ?_
    refine cseq <| cregion <| qq (Val.move rfl) rfl <| qq (Val.sindex Try.underlying9 rfl rfl (by omega) (List.getElem?_eq_getElem hl5)) rfl <| qq (Val.convU8 Try.underlying5 Try.underlying3 rfl) rfl <| qq (Val.assign rfl) rfl <| cnil <| cseq <| cseq ?_
    refine cregion <| qq (Val.move rfl) rfl <| qq (Val.move rfl) rfl <| qq (Val.sindex Try.underlying9 rfl rfl (by omega) (List.getElem?_eq_getElem hl6)) rfl <| qq (Val.convU8 Try.underlying5 Try.underlying3 rfl) rfl <| qq (Val.addI rfl rfl (by first | omega | assumption | (simp; omega) | (simp; done)) (by first | omega | assumption | (simp; omega) | (simp; done))) rfl <| qq (Val.move rfl) rfl <| qq (Val.olen sl23 ho rfl) rfl <| qq (Val.neq rfl rfl) rfl ?_
    refine cnil ?_
    refine WC.cond rfl (fun hc10 => ?_) (fun hc10 => ?_)
    ·try simp only [tstS] at hc10
     rw [hlk] at hc10
     have hno : manTake s = none := manTake_no (by
       rintro ⟨h1, h2, h3⟩
       rw [at_get hl5, at_get hl6] at h3
       omega)
     refine cseq <| cregion <| qq (Val.build (cells := #[I 0, .slice none 0 0, .slice none 0 0]) rfl (by kernel_rfl)) rfl ?_
     refine WR.eff_ (Eff.storeNC agg29 rfl rfl hb2 rfl rfl (by repeat (first | exact List.forall_mem_nil _ | refine List.forall_mem_cons.2 ⟨by first | rfl | assumption, ?_⟩))) ?_
     rintro _ w7 ⟨hS, hM7⟩
     replace hO := hO.mv hM7 rfl; replace hb4 := hb4.mv hM7 rfl; replace ho := ho.mv hM7 rfl
     replace hb2 := hS
     refine qq (Val.assign rfl) rfl <| cnil ?_
     refine WC.retR2 rfl (RVal.cellN agg29 rfl hb2.blk rfl) (RVal.tmp rfl) ?_
     exact ⟨hO.below, _, _, by rw [hno]; rfl, by rw [hno]; exact Own.nil _ _ _ _, by rw [hno]; exact Own.nil _ _ _ _⟩
    ·try simp only [tstS] at hc10
     rw [hlk] at hc10
     have hcond : 7 ≤ s.length ∧ s.take 4 = [77, 65, 78, 70] ∧ s.length = 7 + 32 * (at_ s 5 + at_ s 6) := ⟨h7, h4, by rw [at_get hl5, at_get hl6]; omega⟩
     have hmk := manTake_may hcond
     have hk2 : k = at_ s 5 + at_ s 6 := by rw [at_get hl5, at_get hl6]; omega
     have hn5 : ((s[5].toNat : Nat) : Int).toNat = at_ s 5 := by rw [at_get hl5]; rfl
     have hrd : Rd strS wl v (chunks k (s.drop 7)) := ho.own.rdStrs (fun x hx => by have := chunks_mem _ _ x hx; omega) (by omega)
     have hx5 : ∀ x ∈ chunks k (s.drop 7), x.length ≤ 140737488355328 := fun x hx => by have := chunks_mem _ _ x hx; omega
     have hz5 : (chunks k (s.drop 7)).length ≤ 140737488355328 := by omega
     obtain ⟨A5, c5, rfl, hc5, hA5⟩ := ho.own.formA
     have hmo : manOf s = ⟨s[4].toNat, chunks (at_ s 5) (s.drop 7), chunks (at_ s 6) ((s.drop 7).drop (32 * at_ s 5))⟩ := by rw [manOf, at_get hl4]
     have hp1 : PlainV (subV (.slice A5 (chunks k (s.drop 7)).length c5) 0 ((s[5].toNat : Nat) : Int).toNat 1) := PlainV.sub hA5 (by rw [hlk]; omega)
     have hp2 : PlainV (subV (.slice A5 (chunks k (s.drop 7)).length c5) ((s[5].toNat : Nat) : Int).toNat (chunks k (s.drop 7)).length 1) := PlainV.sub hA5 (Nat.le_refl _)
     refine cskip <| cseq ?_
     refine WC.regionD (Kp cl wl []) [0, 0, 0, 2, 0, 0, 0, 2, 0, 3, 0, 3] [0, 1, 2, 4, 5, 6, 3, 8, 7, 9, 10, 11] mixed (by kernel_rfl) ?_
     have hM8 := Mv.drew cl wl []
     have hCw := Mv.drew cl wl []
     generalize wl.drew = w8 at hM8 hCw ⊢
     have hb20 := hb2
     have hb40 := hb4
     replace hO := hO.mv hM8 rfl; replace hb2 := hb2.mv hM8 rfl; replace hb4 := hb4.mv hM8 rfl; replace ho := ho.mv hM8 rfl
     refine qd rfl rfl rfl (fun _ => Val.move rfl) rfl <| qd rfl rfl rfl (fun _ => Val.move rfl) rfl <| qd rfl rfl rfl (fun _ => Val.partTo sl23 rfl rfl (by omega) (by omega)) rfl <| qd rfl rfl rfl (fun _ => Val.move rfl) rfl <| qd rfl rfl rfl (fun _ => Val.move rfl) rfl <| qd rfl rfl rfl (fun _ => Val.partFrom sl23 rfl rfl (by omega) (by omega)) rfl ?_
     refine WD.eff rfl rfl rfl (Eff.pureC cl 156 (Eff.call pf76 rfl (cloneStrs_ok ((ho.own.rdStrs hx5 hz5).to_ (hi := ((s[5].toNat : Nat) : Int).toNat) (by omega)) hp1 (by simp; omega)))) rfl ?_
     rintro v56 w9 ⟨c9, hM9, hx9, ho56⟩
     refine ⟨fun hC => hC.step hCw hM9 rfl, ?_⟩
     replace hCw := hCw.tr hM9 rfl
     replace hO := hO.mv hM9 rfl; replace hb2 := hb2.mv hM9 rfl; replace hb4 := hb4.mv hM9 rfl; replace ho := ho.mv hM9 rfl
     replace ho56 := ho56.toC hx9
     have c56 := ho56.cellsV; have o56 := ho56.oneC
     first | refine WD.val rfl rfl rfl (fun _ => Val.fieldAddr fld29_1 rfl) rfl ?_ | refine WD.val rfl rfl rfl (fun _ => Val.fieldAddrP fld29_1 rfl) rfl ?_
     refine WD.eff rfl rfl rfl (Eff.pureC c9 160 (Eff.call pf76 rfl (cloneStrs_ok ((ho.own.rdStrs hx5 hz5).from_ (lo := ((s[5].toNat : Nat) : Int).toNat) (by omega)) hp2 (by simp; omega)))) rfl ?_
     rintro v60 w10 ⟨c10, hM10, hx10, ho60⟩
     refine ⟨fun hC => hC.step hCw hM10 rfl, ?_⟩
     replace hCw := hCw.tr hM10 rfl
     replace hO := hO.mv hM10 rfl; replace hb2 := hb2.mv hM10 rfl; replace hb4 := hb4.mv hM10 rfl; replace ho := ho.mv hM10 rfl; replace ho56 := ho56.mv hM10 rfl
     replace ho60 := ho60.toC hx10
     have c60 := ho60.cellsV; have o60 := ho60.oneC
     refine WD.wild rfl rfl rfl (Eff.storeC scl23 rfl rfl (by first | rfl | assumption) (by first | rfl | assumption) hb4 rfl) ?_
     rintro _ w11 ⟨hS, hM11⟩
     replace hO := hO.mv hM11 rfl; replace hb2 := hb2.mv hM11 rfl; replace ho := ho.mv hM11 rfl; replace ho56 := ho56.mv hM11 rfl; replace ho60 := ho60.mv hM11 rfl
     replace hb4 := hS
     first | refine WD.val rfl rfl rfl (fun _ => Val.fieldAddr fld29_2 rfl) rfl ?_ | refine WD.val rfl rfl rfl (fun _ => Val.fieldAddrP fld29_2 rfl) rfl ?_
     refine WD.wild rfl rfl rfl (Eff.storeC scl23 rfl rfl (by first | rfl | assumption) (by first | rfl | assumption) hb4 rfl) ?_
     rintro _ w12 ⟨hS, hM12⟩
     replace hO := hO.mv hM12 rfl; replace hb2 := hb2.mv hM12 rfl; replace ho := ho.mv hM12 rfl; replace ho56 := ho56.mv hM12 rfl; replace ho60 := ho60.mv hM12 rfl
     replace hb4 := hS
     refine WD.nil ?_
     clear hb20 hb40
     clear hCw
     refine cseq <| cseq ?_
     rw [hn5] at ho56 ho60
     have e5 : (chunks k (s.drop 7)).take (at_ s 5) = chunks (at_ s 5) (s.drop 7) := by rw [hk2, chunks_take]
     have e6 : (chunks k (s.drop 7)).drop (at_ s 5) = chunks (at_ s 6) ((s.drop 7).drop (32 * at_ s 5)) := by rw [hk2, chunks_drop]
     rw [e5] at ho56; rw [e6] at ho60
     have hrm : ∀ (cc : Nat → Nat) (W : World), OwnC cc W 156 9 1 v56 (chunks (at_ s 5) (s.drop 7)).length ((chunks (at_ s 5) (s.drop 7)).flatMap fun x => [St x]) → OwnC cc W 160 9 1 v60 (chunks (at_ s 6) ((s.drop 7).drop (32 * at_ s 5))).length ((chunks (at_ s 6) ((s.drop 7).drop (32 * at_ s 5))).flatMap fun x => [St x]) → RdMan W [I s[4].toNat, v56, v60] (manOf s) := fun _ _ ho56 ho60 => by
       rw [hmo]
       exact ⟨v56, v60, rfl, ho56.own.rdStrs (fun x hx => by have := chunks_mem _ _ x hx; omega) (by rw [chunks_length]; have := at_lt s 5; omega), ho60.own.rdStrs (fun x hx => by have := chunks_mem _ _ x hx; omega) (by rw [chunks_length]; have := at_lt s 6; omega), by dsimp only; omega, by dsimp only; omega⟩
     refine cregion <| qq (Val.loadBN agg29 rfl hb4.blk rfl) rfl ?_
     refine WR.eff (Eff.pureC c10 1 (Eff.call pf72 rfl (mmay_ok (hrm _ _ ho56 ho60)))) rfl ?_
     rintro v64 w13 ⟨c13, hM13, hx13, rfl⟩
     replace hO := hO.mv hM13 rfl; replace hb2 := hb2.mv hM13 rfl; replace hb4 := hb4.mv hM13 rfl; replace ho := ho.mv hM13 rfl; replace ho56 := ho56.mv hM13 rfl; replace ho60 := ho60.mv hM13 rfl
     refine qq (Val.not rfl) rfl <| cnil ?_
     refine WC.cond rfl (fun hc13 => ?_) (fun hc13 => ?_)
     ·try simp only [tstS] at hc13
      have hno : manTake s = none := by rw [hmk, hc13]; rfl
      refine cseq <| cregion <| qq (Val.build (cells := #[I 0, .slice none 0 0, .slice none 0 0]) rfl (by kernel_rfl)) rfl ?_
      refine WR.eff_ (Eff.storeNC agg29 rfl rfl hb2 rfl rfl (by repeat (first | exact List.forall_mem_nil _ | refine List.forall_mem_cons.2 ⟨by first | rfl | assumption, ?_⟩))) ?_
      rintro _ w14 ⟨hS, hM14⟩
      replace hO := hO.mv hM14 rfl; replace hb4 := hb4.mv hM14 rfl; replace ho := ho.mv hM14 rfl; replace ho56 := ho56.mv hM14 rfl; replace ho60 := ho60.mv hM14 rfl
      replace hb2 := hS
      refine qq (Val.assign rfl) rfl <| cnil ?_
      refine WC.retR2 rfl (RVal.cellN agg29 rfl hb2.blk rfl) (RVal.tmp rfl) ?_
      exact ⟨hO.below, _, _, by rw [hno]; rfl, by rw [hno]; exact Own.nil _ _ _ _, by rw [hno]; exact Own.nil _ _ _ _⟩
     ·try simp only [tstS] at hc13
      have hye : manTake s = some (manOf s) := by rw [hmk, hc13]; rfl
      refine cskip <| cseq <| cregion <| qq (Val.loadBN agg29 rfl hb4.blk rfl) rfl ?_
      refine WR.eff_ (Eff.storeNC agg29 rfl rfl hb2 rfl rfl (by repeat (first | exact List.forall_mem_nil _ | refine List.forall_mem_cons.2 ⟨by first | rfl | assumption, ?_⟩))) ?_
      rintro _ w15 ⟨hS, hM15⟩
      replace hO := hO.mv hM15 rfl; replace hb4 := hb4.mv hM15 rfl; replace ho := ho.mv hM15 rfl; replace ho56 := ho56.mv hM15 rfl; replace ho60 := ho60.mv hM15 rfl
      replace hb2 := hS
      refine qq (Val.assign rfl) rfl <| cnil ?_
      refine WC.retR2 rfl (RVal.cellN agg29 rfl hb2.blk rfl) (RVal.tmp rfl) ?_
      exact ⟨hO.below, v56, v60, by rw [hye, hmo]; rfl, by rw [hye, hmo]; exact ho56.fromOld hO (by decide), by rw [hye, hmo]; exact ho60.fromOld hO (by decide)⟩
theorem manTake_texts {s : List UInt8} : (∀ x ∈ ((manTake s).getD man0).blobs, x.length ≤ 140737488355328) ∧ (∀ x ∈ ((manTake s).getD man0).subs, x.length ≤ 140737488355328) ∧ ((manTake s).getD man0).blobs.length ≤ 140737488355328 ∧ ((manTake s).getD man0).subs.length ≤ 140737488355328 ∧ Go.Eng.Int64 ((manTake s).getD man0).kind := by
  have h4 := at_lt s 4; have h5 := at_lt s 5; have h6 := at_lt s 6
  by_cases hc : 7 ≤ s.length ∧ s.take 4 = [77, 65, 78, 70] ∧ s.length = 7 + 32 * (at_ s 5 + at_ s 6)
  · rw [manTake_may hc]
    cases hm : manMay (manOf s) with
    | false => simp [man0]; exact ⟨by decide, by decide⟩
    | true =>
      simp only [if_true, Option.getD_some, manOf, chunks_length]
      exact ⟨fun x hx => by have := chunks_mem _ _ x hx; omega, fun x hx => by have := chunks_mem _ _ x hx; omega, by omega, by omega, by omega, by omega⟩
  · rw [manTake_no hc]; simp [man0]; exact ⟨by decide, by decide⟩
theorem mtake_ok {w : World} (s : List UInt8) (hs : s.length ≤ 1048576) :
    Calls Try.prog 25 #[St s] w (Ret fun v w' => Below w.heap.size w w' ∧ ∃ cs, v = .tuple #[.agg cs.toArray, I (if (manTake s).isSome then 0 else 7)] ∧ RdMan w' cs ((manTake s).getD man0)) :=
  (mtake_own s hs).mono fun e w' he => by
    obtain ⟨v, rfl, hb, u1, u2, rfl, h1, h2⟩ := he
    obtain ⟨a1, a2, a3, a4, a5⟩ := manTake_texts (s := s)
    exact ⟨_, rfl, hb, _, rfl, u1, u2, rfl, h1.rdStrs a1 a3, h2.rdStrs a2 a4, a5⟩
end Go.Proofs.Ytnddlhjafkhdoaa

namespace Silo
theorem getD_some {s : List UInt8} {i : Nat} (h : i < s.length) : s[i]? = some (s[i]?.getD 0) := by rw [List.getElem?_eq_getElem h]; rfl
end Silo
namespace Go.Proofs.Ytnddlhjafkhdoaa
open Go Go.Eng Go.RowKit Silo TryT

set_option maxHeartbeats 1000000 in
theorem pmtake_own {w : World} (s : List UInt8) (hs : s.length ≤ 1048576) :
    Calls Try.prog 26 #[St s] w (Ret fun v w' => Below w.heap.size w w' ∧ ∃ u1 u2, v = .tuple #[.agg #[I ((manTake s).getD man0).kind, u1, u2], .bool (manTake s).isSome] ∧ Own w' w.heap.size 9 1 u1 ((manTake s).getD man0).blobs.length (((manTake s).getD man0).blobs.flatMap fun x => [St x]) ∧ Own w' w.heap.size 9 1 u2 ((manTake s).getD man0).subs.length (((manTake s).getD man0).subs.flatMap fun x => [St x])) := by
  obtain ⟨c, hO, hc⟩ := OldC.start w
  clear hc
  refine enter (n := 75) (res := #[.cell 2 29, .tmp 3]) Try.func26 rfl rfl rfl rfl ?_
  refine cseq <| cregion ?_
  refine WR.eff (Eff.allocC c 102 zero29) rfl ?_
  rintro _ w1 ⟨b2, c1, rfl, hM1, hb2⟩
  replace hO := hO.mv hM1 rfl
  refine qq (Val.assign rfl) rfl <| cnil <| cseq <| cseq ?_
  refine WC.regionD (Kp c1 w1 []) [0, 0, 0, 0, 0, 0, 0, 0, 0, 0, 0, 0, 0, 0, 0, 0, 0, 0, 0, 0, 0, 0] [0, 1, 2, 3, 4, 5, 6, 7, 8, 9, 10, 11, 12, 13, 14, 15, 16, 17, 18, 19, 20, 21] mixed (by kernel_rfl) ?_
  have hM2 := Mv.drew c1 w1 []
  have hCw := Mv.drew c1 w1 []
  generalize w1.drew = w2 at hM2 hCw ⊢
  have hb20 := hb2
  replace hO := hO.mv hM2 rfl; replace hb2 := hb2.mv hM2 rfl
  refine qd rfl rfl rfl (fun _ => Val.move rfl) rfl <| qd rfl rfl rfl (fun _ => Val.slen Try.underlying9 rfl) rfl <| qd rfl rfl rfl (fun _ => Val.lss rfl rfl) rfl <| qd rfl rfl rfl (fun _ => Val.move rfl) rfl ?_
  apply WD.sc false 3 _ (fun w' => w2 = w')
  case hl => rfl
  case hi => rfl
  case hk => rfl
  case hg => rfl
  case hu => rfl
  case hv => rfl
  case hs => rfl
  case hoff => rfl
  case hd => rfl
  case hC => exact hCw.kp
  case hF => exact fun _ => rfl
  case hT =>
   intro hq7
   try simp only [tstS] at hq7
   simp only [List.take_succ_cons, List.take_zero]
   refine qd rfl rfl rfl (fun _ => Val.move rfl) rfl <| qd rfl rfl rfl (fun _ => Val.ssliceTo Try.underlying9 rfl rfl (by omega) (by omega)) rfl <| qd rfl rfl rfl (fun _ => Val.sne rfl rfl) rfl ?_
   exact WD.nil ⟨rfl, Sub.drop _ 3 _ rfl rfl, rfl⟩
  rintro _ rfl
  refine qd rfl rfl rfl (fun _ => Val.move rfl) rfl ?_
  apply WD.sc false 12 _ (fun w' => w2 = w')
  case hl => rfl
  case hi => rfl
  case hk => rfl
  case hg => rfl
  case hu => rfl
  case hv => rfl
  case hs => rfl
  case hoff => rfl
  case hd => rfl
  case hC => exact hCw.kp
  case hF => exact fun _ => rfl
  case hT =>
   intro hq21
   try simp only [tstS] at hq21
   simp only [List.take_succ_cons, List.take_zero]
   have hl5 : 5 < s.length := by omega
   have hl6 : 6 < s.length := by omega
   have hu5 : (s[5]?.getD 0).toNat < 256 := UInt8.toNat_lt _
   have hu6 : (s[6]?.getD 0).toNat < 256 := UInt8.toNat_lt _
   refine qd rfl rfl rfl (fun _ => Val.move rfl) rfl <| qd rfl rfl rfl (fun _ => Val.slen Try.underlying9 rfl) rfl <| qd rfl rfl rfl (fun _ => Val.move rfl) rfl <| qd rfl rfl rfl (fun _ => Val.sindex Try.underlying9 rfl rfl (by omega) (getD_some hl5)) rfl <| qd rfl rfl rfl (fun _ => Val.convU8 Try.underlying5 Try.underlying3 rfl) rfl <| qd rfl rfl rfl (fun _ => Val.move rfl) rfl <| qd rfl rfl rfl (fun _ => Val.sindex Try.underlying9 rfl rfl (by omega) (getD_some hl6)) rfl <| qd rfl rfl rfl (fun _ => Val.convU8 Try.underlying5 Try.underlying3 rfl) rfl <| qd rfl rfl rfl (fun _ => Val.addI rfl rfl (by first | omega | assumption | (simp; omega) | (simp; done)) (by first | omega | assumption | (simp; omega) | (simp; done))) rfl ?_
   refine qd rfl rfl rfl (fun _ => Val.mulI rfl rfl (by first | omega | assumption | (simp; omega) | (simp; done)) (by first | omega | assumption | (simp; omega) | (simp; done))) rfl <| qd rfl rfl rfl (fun _ => Val.addI rfl rfl (by first | omega | assumption | (simp; omega) | (simp; done)) (by first | omega | assumption | (simp; omega) | (simp; done))) rfl <| qd rfl rfl rfl (fun _ => Val.neq rfl rfl) rfl ?_
   exact WD.nil ⟨rfl, Sub.drop _ 12 _ rfl rfl, rfl⟩
  rintro _ rfl
  refine WD.nil ?_
  clear hb20
  clear hCw
  refine WC.cond rfl (fun hc1 => ?_) (fun hc1 => ?_)
  ·try simp only [tstS] at hc1
   replace hc1 : ((s.length : Int) < 7 ∨ (s.take 4 == [77, 65, 78, 70]) = false) ∨ ¬ (s.length : Int) = 7 + 32 * ((at_ s 5 : Nat) + (at_ s 6 : Nat)) := hc1
   have hno : manTake s = none := manTake_no (by
     rintro ⟨h1, h2, h3⟩
     rcases hc1 with (h | h) | h
     · omega
     · rw [h2] at h; simp at h
     · omega)
   refine cseq <| cregion <| qq (Val.build (cells := #[I 0, .slice none 0 0, .slice none 0 0]) rfl (by kernel_rfl)) rfl ?_
   refine WR.eff_ (Eff.storeNC agg29 rfl rfl hb2 rfl rfl (by repeat (first | exact List.forall_mem_nil _ | refine List.forall_mem_cons.2 ⟨by first | rfl | assumption, ?_⟩))) ?_
   rintro _ w3 ⟨hS, hM3⟩
   replace hO := hO.mv hM3 rfl
   replace hb2 := hS
   refine qq (Val.assign rfl) rfl <| cnil ?_
   refine WC.retR2 rfl (RVal.cellN agg29 rfl hb2.blk rfl) (RVal.tmp rfl) ?_
   exact ⟨hO.below, _, _, by rw [hno]; rfl, by rw [hno]; exact Own.nil _ _ _ _, by rw [hno]; exact Own.nil _ _ _ _⟩
  ·try simp only [tstS] at hc1
   replace hc1 : (¬ (s.length : Int) < 7 ∧ (s.take 4 == [77, 65, 78, 70]) = true) ∧ (s.length : Int) = 7 + 32 * ((at_ s 5 : Nat) + (at_ s 6 : Nat)) := hc1
   have hcond : 7 ≤ s.length ∧ s.take 4 = [77, 65, 78, 70] ∧ s.length = 7 + 32 * (at_ s 5 + at_ s 6) := ⟨by omega, by simpa using hc1.1.2, by omega⟩
   have hmk := manTake_may hcond
   have h7 := hcond.2.2
   have hl4 : 4 < s.length := by omega
   have hl5 : 5 < s.length := by omega
   have hl6 : 6 < s.length := by omega
   have hu4 := at_lt s 4; have hu5 := at_lt s 5; have hu6 := at_lt s 6
   have hat : ∀ i : Nat, ((s[i]?.getD 0).toNat : Int) = (at_ s i : Nat) := fun _ => rfl
   clear hc1
   refine cskip <| cseq <| cregion <| qq (Val.move rfl) rfl <| qq (Val.sindex Try.underlying9 rfl rfl (by omega) (getD_some hl4)) rfl <| qq (Val.convU8 Try.underlying5 Try.underlying3 rfl) rfl <| qq (Val.build (cells := #[I (at_ s 4 : Nat), .slice none 0 0, .slice none 0 0]) rfl (by kernel_rfl)) rfl ?_
   refine WR.eff (Eff.allocC c1 104 zero29) rfl ?_
   rintro _ w4 ⟨b4, c4, rfl, hM4, hb4⟩
   replace hO := hO.mv hM4 rfl; replace hb2 := hb2.mv hM4 rfl
   refine WR.eff_ (Eff.storeNC agg29 rfl rfl hb4 rfl rfl (by repeat (first | exact List.forall_mem_nil _ | refine List.forall_mem_cons.2 ⟨by first | rfl | assumption, ?_⟩))) ?_
   rintro _ w5 ⟨hS, hM5⟩
   replace hO := hO.mv hM5 rfl; replace hb2 := hb2.mv hM5 rfl
   replace hb4 := hS
   refine cnil <| cseq <| cseq <| cregion <| qq (Val.assign rfl) rfl <| cnil <| cblock ?_
   refine WC.loop (σ := Nat × Value × Value) (fun st => [(0, St s), (2, .pointer (some ⟨b2, 0, none⟩)), (4, .pointer (some ⟨b4, 0, none⟩)), (5, I st.1)]) (fun st w' => ∃ c', OldC w c' w' ∧ BlkC c' w' 102 b2 [I 0, .slice none 0 0, .slice none 0 0] 29 ∧ BlkC c' w' 104 b4 [I (at_ s 4 : Nat), st.2.1, st.2.2] 29 ∧ OwnC c' w' 5 9 1 st.2.1 (chunks (min st.1 (at_ s 5)) (s.drop 7)).length ((chunks (min st.1 (at_ s 5)) (s.drop 7)).flatMap fun x => [St x]) ∧ OwnC c' w' 6 9 1 st.2.2 (chunks (st.1 - at_ s 5) ((s.drop 7).drop (32 * at_ s 5))).length ((chunks (st.1 - at_ s 5) ((s.drop 7).drop (32 * at_ s 5))).flatMap fun x => [St x]) ∧ st.1 ≤ at_ s 5 + at_ s 6) (fun st => at_ s 5 + at_ s 6 - st.1) (0, .slice none 0 0, .slice none 0 0) (by repeat (first | exact Sub.nil _ | refine Sub.cons rfl ?_ | refine Sub.consM rfl ?_)) ⟨_, hO, hb2, hb4, by dsimp only; rw [Nat.zero_min]; exact OwnC.nil _ _ _ _ _, by dsimp only; rw [Nat.zero_sub]; exact OwnC.nil _ _ _ _ _, by dsimp only; omega⟩ ?_
   clear hO hb2 hb4
   rintro ⟨i, v1, v2⟩ wl ⟨cl, hO, hb2, hb4, ho1, ho2, hi⟩
   dsimp only at hO hb2 hb4 ho1 ho2 hi ⊢
   have hl1 := chunks_length (min i (at_ s 5)) (s.drop 7)
   have hl2 := chunks_length (i - at_ s 5) ((s.drop 7).drop (32 * at_ s 5))
   have c1' := ho1.cellsV; have o1' := ho1.oneC; have c2' := ho2.cellsV; have o2' := ho2.oneC
   refine cseq <| cseq ?_
   refine WC.regionD (Kp cl wl []) [0, 0, 0, 0, 0, 0, 0, 0, 0] [0, 1, 2, 3, 4, 5, 6, 7, 8] mixed (by kernel_rfl) ?_
   have hM6 := Mv.drew cl wl []
   have hCw := Mv.drew cl wl []
   generalize wl.drew = w6 at hM6 hCw ⊢
   have hb20 := hb2
   have hb40 := hb4
   replace hO := hO.mv hM6 rfl; replace hb2 := hb2.mv hM6 rfl; replace hb4 := hb4.mv hM6 rfl; replace ho1 := ho1.mv hM6 rfl; replace ho2 := ho2.mv hM6 rfl
   refine qd rfl rfl rfl (fun _ => Val.move rfl) rfl <| qd rfl rfl rfl (fun _ => Val.move rfl) rfl <| qd rfl rfl rfl (fun _ => Val.sindex Try.underlying9 rfl rfl (by omega) (getD_some hl5)) rfl <| qd rfl rfl rfl (fun _ => Val.convU8 Try.underlying5 Try.underlying3 rfl) rfl <| qd rfl rfl rfl (fun _ => Val.move rfl) rfl <| qd rfl rfl rfl (fun _ => Val.sindex Try.underlying9 rfl rfl (by omega) (getD_some hl6)) rfl <| qd rfl rfl rfl (fun _ => Val.convU8 Try.underlying5 Try.underlying3 rfl) rfl <| qd rfl rfl rfl (fun _ => Val.addI rfl rfl (by show _ ≤ ((at_ s 5 : Nat) : Int) + ((at_ s 6 : Nat) : Int); omega) (by show ((at_ s 5 : Nat) : Int) + ((at_ s 6 : Nat) : Int) ≤ _; omega)) rfl <| qd rfl rfl rfl (fun _ => Val.lss rfl rfl) rfl ?_
   refine WD.nil ?_
   clear hb20 hb40
   clear hCw
   refine WC.cond rfl (fun hc5 => ?_) (fun hc5 => ?_)
   ·try simp only [tstS] at hc5
    replace hc5 : (i : Int) < (at_ s 5 : Nat) + (at_ s 6 : Nat) := hc5
    have hi8 : i < at_ s 5 + at_ s 6 := by omega
    refine cskip <| cseq <| cblock <| cseq <| cregion <| qq (Val.move rfl) rfl <| qq (Val.move rfl) rfl <| qq (Val.mulI rfl rfl (by first | omega | assumption | (simp; omega) | (simp; done)) (by first | omega | assumption | (simp; omega) | (simp; done))) rfl <| qq (Val.addI rfl rfl (by first | omega | assumption | (simp; omega) | (simp; done)) (by first | omega | assumption | (simp; omega) | (simp; done))) rfl ?_
    refine qq (Val.move rfl) rfl <| qq (Val.mulI rfl rfl (by first | omega | assumption | (simp; omega) | (simp; done)) (by first | omega | assumption | (simp; omega) | (simp; done))) rfl <| qq (Val.addI rfl rfl (by first | omega | assumption | (simp; omega) | (simp; done)) (by first | omega | assumption | (simp; omega) | (simp; done))) rfl <| qq (Val.sslice Try.underlying9 rfl rfl rfl (by omega) (by omega) (by omega)) rfl <| qq (Val.assign rfl) rfl <| cnil ?_
    have et : (s.drop (7 + 32 * (i : Int)).toNat).take ((39 + 32 * (i : Int)).toNat - (7 + 32 * (i : Int)).toNat) = (s.drop (7 + 32 * i)).take 32 := by
      rw [show (39 + 32 * (i : Int)).toNat - (7 + 32 * (i : Int)).toNat = 32 by omega, show (7 + 32 * (i : Int)).toNat = 7 + 32 * i by omega]
    rw [et]
    refine cseq <| cregion <| qq (Val.move rfl) rfl <| qq (Val.move rfl) rfl <| qq (Val.sindex Try.underlying9 rfl rfl (by omega) (getD_some hl5)) rfl <| qq (Val.convU8 Try.underlying5 Try.underlying3 rfl) rfl <| qq (Val.lss rfl rfl) rfl <| cnil ?_
    refine WC.mono (N := fun e w' => ∃ c' v1 v2, Sub [(4000000, .tuple #[]), (0, St s), (2, .pointer (some ⟨b2, 0, none⟩)), (4, .pointer (some ⟨b4, 0, none⟩)), (5, I i)] e ∧ OldC w c' w' ∧ BlkC c' w' 102 b2 [I 0, .slice none 0 0, .slice none 0 0] 29 ∧ BlkC c' w' 104 b4 [I (at_ s 4 : Nat), v1, v2] 29 ∧ OwnC c' w' 5 9 1 v1 (chunks (min (i + 1) (at_ s 5)) (s.drop 7)).length ((chunks (min (i + 1) (at_ s 5)) (s.drop 7)).flatMap fun x => [St x]) ∧ OwnC c' w' 6 9 1 v2 (chunks (i + 1 - at_ s 5) ((s.drop 7).drop (32 * at_ s 5))).length ((chunks (i + 1 - at_ s 5) ((s.drop 7).drop (32 * at_ s 5))).flatMap fun x => [St x])) ?_ ?_
    ·refine WC.cond rfl (fun hc8 => ?_) (fun hc8 => ?_)
     ·try simp only [tstS] at hc8
      replace hc8 : (i : Int) < (at_ s 5 : Nat) := hc8
      refine cregion ?_
      first | refine WR.val (Val.fieldAddr fld29_1 rfl) rfl ?_ | refine WR.val (Val.fieldAddrP fld29_1 rfl) rfl ?_
      refine qq (Val.loadB scl23 rfl hb4.blk rfl) rfl <| qq (Val.move rfl) rfl ?_
      refine WR.eff (Eff.build1C cl 161 sl23 rfl rfl rfl rfl rfl) rfl ?_
      rintro _ w7 ⟨b61, c7, rfl, hM7, hb61⟩
      replace hO := hO.mv hM7 rfl; replace hb2 := hb2.mv hM7 rfl; replace hb4 := hb4.mv hM7 rfl; replace ho1 := ho1.mv hM7 rfl; replace ho2 := ho2.mv hM7 rfl
      refine WR.eff (Eff.appendC sl23 rfl rfl ho1 (Src.cellsAt Try.underlying23 hb61.blk.cellsAt rfl (by repeat (first | exact List.forall_mem_nil _ | refine List.forall_mem_cons.2 ⟨by first | rfl | assumption, ?_⟩))) (by rw [maxLen_eq]; first | omega | (simp; omega)) (by first | omega | (simp; omega))) rfl ?_
      rintro v62 w8 ⟨c8, hM8, hOq⟩
      clear hb61
      replace hO := hO.mv hM8 rfl; replace hb2 := hb2.mv hM8 rfl; replace hb4 := hb4.mv hM8 rfl; replace ho2 := ho2.mv hM8 rfl
      replace ho1 := hOq
      have cA := ho1.cellsV; have oA := ho1.oneC
      first | refine WR.val (Val.fieldAddr fld29_1 rfl) rfl ?_ | refine WR.val (Val.fieldAddrP fld29_1 rfl) rfl ?_
      refine WR.eff_ (Eff.storeC scl23 rfl rfl (by first | rfl | assumption) (by first | rfl | assumption) hb4 rfl) ?_
      rintro _ w9 ⟨hS, hM9⟩
      replace hO := hO.mv hM9 rfl; replace hb2 := hb2.mv hM9 rfl; replace ho1 := ho1.mv hM9 rfl; replace ho2 := ho2.mv hM9 rfl
      replace hb4 := hS
      refine cnil ?_
      have e1 : min (i + 1) (at_ s 5) = min i (at_ s 5) + 1 := by omega
      have e2 : i + 1 - at_ s 5 = i - at_ s 5 := by omega
      have e3 : (chunks (min i (at_ s 5)) (s.drop 7)).flatMap (fun x => [St x]) ++ [St ((s.drop (7 + 32 * i)).take 32)] = (chunks (min i (at_ s 5) + 1) (s.drop 7)).flatMap (fun x => [St x]) := by
        rw [chunks_snoc, List.flatMap_append, List.drop_drop, show min i (at_ s 5) = i by omega]; rfl
      have e4 : (chunks (min i (at_ s 5)) (s.drop 7)).length + 1 = (chunks (min i (at_ s 5) + 1) (s.drop 7)).length := by rw [chunks_length, chunks_length]
      refine ⟨_, _, _, (by repeat (first | exact Sub.nil _ | refine Sub.cons rfl ?_ | refine Sub.consM rfl ?_)), hO, hb2, hb4, ?_, ?_⟩
      · rw [e1, ← e3, ← e4]; exact ho1
      · rw [e2]; exact ho2
     ·try simp only [tstS] at hc8
      replace hc8 : ¬ (i : Int) < (at_ s 5 : Nat) := hc8
      refine cregion ?_
      first | refine WR.val (Val.fieldAddr fld29_2 rfl) rfl ?_ | refine WR.val (Val.fieldAddrP fld29_2 rfl) rfl ?_
      refine qq (Val.loadB scl23 rfl hb4.blk rfl) rfl <| qq (Val.move rfl) rfl ?_
      refine WR.eff (Eff.build1C cl 167 sl23 rfl rfl rfl rfl rfl) rfl ?_
      rintro _ w10 ⟨b67, c10, rfl, hM10, hb67⟩
      replace hO := hO.mv hM10 rfl; replace hb2 := hb2.mv hM10 rfl; replace hb4 := hb4.mv hM10 rfl; replace ho1 := ho1.mv hM10 rfl; replace ho2 := ho2.mv hM10 rfl
      refine WR.eff (Eff.appendC sl23 rfl rfl ho2 (Src.cellsAt Try.underlying23 hb67.blk.cellsAt rfl (by repeat (first | exact List.forall_mem_nil _ | refine List.forall_mem_cons.2 ⟨by first | rfl | assumption, ?_⟩))) (by rw [maxLen_eq]; first | omega | (simp; omega)) (by first | omega | (simp; omega))) rfl ?_
      rintro v68 w11 ⟨c11, hM11, hOq⟩
      clear hb67
      replace hO := hO.mv hM11 rfl; replace hb2 := hb2.mv hM11 rfl; replace hb4 := hb4.mv hM11 rfl; replace ho1 := ho1.mv hM11 rfl
      replace ho2 := hOq
      have cA := ho2.cellsV; have oA := ho2.oneC
      first | refine WR.val (Val.fieldAddr fld29_2 rfl) rfl ?_ | refine WR.val (Val.fieldAddrP fld29_2 rfl) rfl ?_
      refine WR.eff_ (Eff.storeC scl23 rfl rfl (by first | rfl | assumption) (by first | rfl | assumption) hb4 rfl) ?_
      rintro _ w12 ⟨hS, hM12⟩
      replace hO := hO.mv hM12 rfl; replace hb2 := hb2.mv hM12 rfl; replace ho1 := ho1.mv hM12 rfl; replace ho2 := ho2.mv hM12 rfl
      replace hb4 := hS
      refine cnil ?_
      have e1 : min (i + 1) (at_ s 5) = min i (at_ s 5) := by omega
      have e2 : i + 1 - at_ s 5 = i - at_ s 5 + 1 := by omega
      have e3 : (chunks (i - at_ s 5) ((s.drop 7).drop (32 * at_ s 5))).flatMap (fun x => [St x]) ++ [St ((s.drop (7 + 32 * i)).take 32)] = (chunks (i - at_ s 5 + 1) ((s.drop 7).drop (32 * at_ s 5))).flatMap (fun x => [St x]) := by
        rw [chunks_snoc, List.flatMap_append, List.drop_drop, List.drop_drop, show 7 + 32 * at_ s 5 + 32 * (i - at_ s 5) = 7 + 32 * i by omega]; rfl
      have e4 : (chunks (i - at_ s 5) ((s.drop 7).drop (32 * at_ s 5))).length + 1 = (chunks (i - at_ s 5 + 1) ((s.drop 7).drop (32 * at_ s 5))).length := by rw [chunks_length, chunks_length]
      refine ⟨_, _, _, (by repeat (first | exact Sub.nil _ | refine Sub.cons rfl ?_ | refine Sub.consM rfl ?_)), hO, hb2, hb4, ?_, ?_⟩
      · rw [e1]; exact ho1
      · rw [e2, ← e3, ← e4]; exact ho2
    ·skip
     rintro e9 w9 ⟨c9, u1, u2, hsub, hO, hb2, hb4, ho1, ho2⟩
     refine WC.sub hsub ?_
     clear hsub e9
     refine cregion <| qq (Val.move rfl) rfl <| qq (Val.addI rfl rfl (by first | omega | assumption | (simp; omega) | (simp; done)) (by first | omega | assumption | (simp; omega) | (simp; done))) rfl <| qq (Val.assign rfl) rfl <| cnil ?_
     exact ⟨(i + 1, _, _), (by repeat (first | exact Sub.nil _ | refine Sub.cons rfl ?_ | refine Sub.consM rfl ?_)), ⟨_, hO, hb2, hb4, ho1, ho2, hi8⟩, by dsimp only; omega⟩
   ·try simp only [tstS] at hc5
    replace hc5 : ¬ (i : Int) < (at_ s 5 : Nat) + (at_ s 6 : Nat) := hc5
    have : i = at_ s 5 + at_ s 6 := by omega
    subst this
    rw [show min (at_ s 5 + at_ s 6) (at_ s 5) = at_ s 5 by omega] at ho1
    rw [show at_ s 5 + at_ s 6 - at_ s 5 = at_ s 6 by omega] at ho2
    have hrm : ∀ (cc : Nat → Nat) (W : World), OwnC cc W 5 9 1 v1 (chunks (at_ s 5) (s.drop 7)).length ((chunks (at_ s 5) (s.drop 7)).flatMap fun x => [St x]) → OwnC cc W 6 9 1 v2 (chunks (at_ s 6) ((s.drop 7).drop (32 * at_ s 5))).length ((chunks (at_ s 6) ((s.drop 7).drop (32 * at_ s 5))).flatMap fun x => [St x]) → RdMan W [I (at_ s 4 : Nat), v1, v2] (manOf s) := fun _ _ ho56 ho60 =>
      ⟨v1, v2, rfl, ho56.own.rdStrs (fun x hx => by have := chunks_mem _ _ x hx; omega) (by rw [chunks_length]; omega), ho60.own.rdStrs (fun x hx => by have := chunks_mem _ _ x hx; omega) (by rw [chunks_length]; omega), by dsimp only [manOf]; omega, by dsimp only [manOf]; omega⟩
    refine WC.exit rfl ?_
    refine cseq <| cseq <| cregion <| qq (Val.loadBN agg29 rfl hb4.blk rfl) rfl ?_
    refine WR.eff (Eff.pureC cl 1 (Eff.call pf17 rfl (pman_ok (hrm _ _ ho1 ho2)))) rfl ?_
    rintro v71 w13 ⟨c13, hM13, hx13, rfl⟩
    replace hO := hO.mv hM13 rfl; replace hb2 := hb2.mv hM13 rfl; replace hb4 := hb4.mv hM13 rfl; replace ho1 := ho1.mv hM13 rfl; replace ho2 := ho2.mv hM13 rfl
    refine qq (Val.not rfl) rfl <| cnil ?_
    refine WC.cond rfl (fun hc11 => ?_) (fun hc11 => ?_)
    ·try simp only [tstS] at hc11
     have hno : manTake s = none := by rw [hmk, hc11]; rfl
     refine cseq <| cregion <| qq (Val.build (cells := #[I 0, .slice none 0 0, .slice none 0 0]) rfl (by kernel_rfl)) rfl ?_
     refine WR.eff_ (Eff.storeNC agg29 rfl rfl hb2 rfl rfl (by repeat (first | exact List.forall_mem_nil _ | refine List.forall_mem_cons.2 ⟨by first | rfl | assumption, ?_⟩))) ?_
     rintro _ w14 ⟨hS, hM14⟩
     replace hO := hO.mv hM14 rfl; replace hb4 := hb4.mv hM14 rfl; replace ho1 := ho1.mv hM14 rfl; replace ho2 := ho2.mv hM14 rfl
     replace hb2 := hS
     refine qq (Val.assign rfl) rfl <| cnil ?_
     refine WC.retR2 rfl (RVal.cellN agg29 rfl hb2.blk rfl) (RVal.tmp rfl) ?_
     exact ⟨hO.below, _, _, by rw [hno]; rfl, by rw [hno]; exact Own.nil _ _ _ _, by rw [hno]; exact Own.nil _ _ _ _⟩
    ·try simp only [tstS] at hc11
     have hye : manTake s = some (manOf s) := by rw [hmk, hc11]; rfl
     refine cskip <| cseq <| cregion <| qq (Val.loadBN agg29 rfl hb4.blk rfl) rfl ?_
     refine WR.eff_ (Eff.storeNC agg29 rfl rfl hb2 rfl rfl (by repeat (first | exact List.forall_mem_nil _ | refine List.forall_mem_cons.2 ⟨by first | rfl | assumption, ?_⟩))) ?_
     rintro _ w15 ⟨hS, hM15⟩
     replace hO := hO.mv hM15 rfl; replace hb4 := hb4.mv hM15 rfl; replace ho1 := ho1.mv hM15 rfl; replace ho2 := ho2.mv hM15 rfl
     replace hb2 := hS
     refine qq (Val.assign rfl) rfl <| cnil ?_
     refine WC.retR2 rfl (RVal.cellN agg29 rfl hb2.blk rfl) (RVal.tmp rfl) ?_
     exact ⟨hO.below, v1, v2, by rw [hye]; rfl, by rw [hye]; exact ho1.fromOld hO (by decide), by rw [hye]; exact ho2.fromOld hO (by decide)⟩
theorem pmtake_ok {w : World} (s : List UInt8) (hs : s.length ≤ 1048576) :
    Calls Try.prog 26 #[St s] w (Ret fun v w' => Below w.heap.size w w' ∧ ∃ cs, v = .tuple #[.agg cs.toArray, .bool (manTake s).isSome] ∧ RdMan w' cs ((manTake s).getD man0)) :=
  (pmtake_own s hs).mono fun e w' he => by
    obtain ⟨v, rfl, hb, u1, u2, rfl, h1, h2⟩ := he
    obtain ⟨a1, a2, a3, a4, a5⟩ := manTake_texts (s := s)
    exact ⟨_, rfl, hb, _, rfl, u1, u2, rfl, h1.rdStrs a1 a3, h2.rdStrs a2 a4, a5⟩
end Go.Proofs.Ytnddlhjafkhdoaa

namespace Go
section
variable {P : Program} {b : Frame} {a : Act} {k : List Item} {cs : List Frame} {w : World}
theorem stepR_scope {c : Code} : step P (lone (b.atR a (.code (.scope c) :: k)) cs w) = .next (lone (b.atR a (.code c :: .inScope c :: k)) cs w) :=
  step_lone_go (by simp [stepG, stepG.exec, Frame.atR])
theorem stepR_inScope {c : Code} : step P (lone (b.atR a (.inScope c :: k)) cs w) = .next (lone (b.atR a k) cs w) :=
  step_lone_go (by simp [stepG, stepG.exec, Frame.atR])
end
theorem wpIn_scope {F : Fence} {n : Nat} {P : Program} {Q : Exit → Act → World → Prop} {a : Act} {w : World} {c : Code} (h : c.wpIn F n P Q a w) (hg : ∀ l a w, ¬ Q (.goto l) a w) : (Code.scope c).wpIn F n P Q a w := by
  intro b k cs hro hb hr
  have h0 : (lone (b.atR a (.code (.scope c) :: k)) cs w).fenced P F := fenced_calm hb hr rfl
  obtain ⟨e, a₁, w₁, hq, harr⟩ := h b (.inScope c :: k) cs hro hb hr
  cases e with
  | normal => exact ⟨.normal, a₁, w₁, hq, .head h0 stepR_scope (StepsIn.trans harr (.one (fenced_calm hb hr rfl) stepR_inScope))⟩
  | exit id =>
    have hx : exitTo id (.inScope c :: k) = exitTo id k := by simp [exitTo]
    exact ⟨_, a₁, w₁, hq, fun k' hk => .head h0 stepR_scope (harr.1 k' (by rw [hx]; exact hk)),
      fun hr' hk => let ⟨k₁, h1, h2⟩ := harr.2 hr' (by rw [hx]; exact hk); ⟨k₁, h1, .head h0 stepR_scope h2⟩⟩
  | goto l => exact absurd hq (hg _ _ _)
  | ret => exact ⟨_, a₁, w₁, hq, .of_steps (.one h0 stepR_scope) harr⟩
  | panic ch => exact ⟨_, a₁, w₁, hq, .of_steps (.one h0 stepR_scope) harr⟩
  | outgrown => exact ⟨_, a₁, w₁, hq, .of_steps (.one h0 stepR_scope) harr⟩
namespace Eng
open Go.RowKit
theorem WC.scope {c : Cx} {B : List (Nat × Kont)} {env : Env} {w : World} {N : Kont} {x : Code} (h : WC c B x env w N) : WC c B (.scope x) env w N := fun a ho => wpIn_scope (h a ho) fun _ _ _ hq => hq

theorem flatAt : ∀ (css : List (List Value)) (n : Nat), (∀ cs ∈ css, cs.length = n) → ∀ (i : Nat) (hi : i < css.length) (j : Nat) (u : Value), css[i][j]? = some u → css.flatten[i * n + j]? = some u
  | cs :: r, n, hl, 0, _, j, u, hu => by
    have hj : j < cs.length := by
      rcases Nat.lt_or_ge j cs.length with h' | h'
      · exact h'
      · simp [List.getElem?_eq_none h'] at hu
    simp only [List.flatten_cons, Nat.zero_mul, Nat.zero_add]
    rw [List.getElem?_append_left hj]
    simpa using hu
  | cs :: r, n, hl, i + 1, hi, j, u, hu => by
    have h0 := hl cs (by simp)
    simp only [List.flatten_cons]
    rw [List.getElem?_append_right (by rw [h0, Nat.add_mul]; omega), h0]
    have : (i + 1) * n + j - n = i * n + j := by rw [Nat.add_mul]; omega
    rw [this]
    exact flatAt r n (fun c hc => hl c (by simp [hc])) i (by simpa using hi) j u (by simpa using hu)
/-- A slice of a row of one's own, anywhere in it. -/
def OwnA (w : World) (e : TypeId) (size : Nat) (v : Value) (n : Nat) (xs : List Value) : Prop :=
  xs.length = n * size ∧
  ((n = 0 ∧ ∃ A, v = .slice A 0 0) ∨
   ∃ g o cap cur fz, v = .slice (some ⟨g, o, none⟩) n cap ∧ w.heap[g]? = some (.cells cur e fz) ∧ (fz.1 < fz.2 → cur.size ≤ fz.1) ∧ n ≤ cap ∧ cap ≤ maxLen ∧ cur.size = o + cap * size ∧ (cur.toList.drop o).take (n * size) = xs ∧ 0 < cap)
section
variable {w w' : World} {e : TypeId} {size : Nat} {v : Value} {n : Nat} {xs : List Value}
theorem Own.any {base : Nat} (h : Own w base e size v n xs) : OwnA w e size v n xs := by
  refine ⟨h.1, ?_⟩
  rcases h.2 with hn | ⟨g, cap, cur, fz, rfl, hb, h1, h2, h3, h4, h5, h6, h7⟩
  · exact .inl hn
  · exact .inr ⟨g, 0, cap, cur, fz, rfl, h1, h2, h3, h4, by omega, by simpa using h6, h7⟩
theorem OwnA.lt (h : OwnA w e size v n xs) : ∀ k, v.rowOf = some k → k < w.heap.size := by
  intro k hk
  rcases h.2 with ⟨_, A, rfl⟩ | ⟨g, o, cap, cur, fz, rfl, hg, _, _, _, _, _, h0⟩
  · rw [rowOf_zero] at hk; cases hk
  · rw [rowOf_slice h0] at hk
    injection hk with hk
    subst hk
    exact (Array.getElem?_eq_some_iff.1 hg).1
theorem OwnA.keepB (h : OwnA w e size v n xs) (hk : ∀ k, v.rowOf = some k → w'.heap[k]? = w.heap[k]?) : OwnA w' e size v n xs := by
  refine ⟨h.1, ?_⟩
  rcases h.2 with hn | ⟨g, o, cap, cur, fz, rfl, hg, h1, h2, h3, h4, h5, h0⟩
  · exact .inl hn
  · exact .inr ⟨g, o, cap, cur, fz, rfl, by rw [hk g (rowOf_slice h0)]; exact hg, h1, h2, h3, h4, h5, h0⟩
theorem OwnA.formA (h : OwnA w e size v n xs) : ∃ A c, v = .slice A n c ∧ n ≤ c ∧ c ≤ maxLen := by
  rcases h.2 with ⟨rfl, A, rfl⟩ | ⟨g, o, cap, cur, fz, rfl, _, _, h1, h2, _⟩
  · exact ⟨A, 0, rfl, by simp, by simp⟩
  · exact ⟨_, cap, rfl, h1, h2⟩
theorem OwnA.cells (h : OwnA w e size v n xs) {g o m c : Nat} (hv : v = .slice (some ⟨g, o, none⟩) m c) (h0 : 0 < c) : cellsAt w ⟨g, o, none⟩ xs := by
  intro j u hu
  rcases h.2 with ⟨_, A, h1⟩ | ⟨g', o', cap, cur, fz, h1, hg, _, _, _, _, htake, hc⟩
  · rw [hv] at h1
    injection h1 with h2 h3 h4
    omega
  · rw [hv] at h1
    injection h1 with h2 h3 h4
    injection h2 with h2
    injection h2 with h2 h5 h6
    subst h2 h5
    rw [add_lit, cell_of_row w g _ cur e fz hg]
    rw [← htake, List.getElem?_take] at hu
    split at hu
    · rw [List.getElem?_drop] at hu
      simpa using hu
    · cases hu
/-- What is left behind the first k. -/
theorem OwnA.from (h : OwnA w e size v n xs) {k : Nat} (hk : k ≤ n) : OwnA w e size (subV v k n size) (n - k) (xs.drop (k * size)) := by
  refine ⟨by rw [List.length_drop, h.1, Nat.sub_mul], ?_⟩
  rcases h.2 with ⟨rfl, A, rfl⟩ | ⟨g, o, cap, cur, fz, rfl, hg, h1, h2, h3, h4, h5, h0⟩
  · have : k = 0 := by omega
    subst this
    exact .inl ⟨by simp, A, by simp [subV]⟩
  · rcases Nat.eq_or_lt_of_le (Nat.le_trans hk h2) with h6 | h6
    · subst h6
      exact .inl ⟨by omega, some ⟨g, o, none⟩, by simp [subV]; omega⟩
    · refine .inr ⟨g, o + k * size, cap - k, cur, fz, ?_, hg, h1, by omega, by omega, ?_, ?_, by omega⟩
      · simp only [subV]
        rw [if_neg (by omega)]
        simp [add_lit]
      · have : cap * size = k * size + (cap - k) * size := by rw [← Nat.add_mul]; congr 1; omega
        omega
      · rw [← h5, List.drop_take, List.drop_drop, Nat.sub_mul]
theorem OwnA.rdFlat {α : Type} {n' : Nat} {enc : α → List Value} {ok : α → Prop} {h0 : ∀ x, (enc x).length = n'} {h1 : ∀ x, ∀ u ∈ enc x, u.oneCell' = true} {l : List α} (hsm : l.length ≤ 140737488355328) (h : OwnA w e n' v l.length (l.flatMap enc)) (hok : ∀ x ∈ l, ok x) :
    RdS (Shape.flat n' enc ok h0 h1) w.heap.size w v l := by
  refine ⟨?_, ?_, ?_, hsm⟩
  · obtain ⟨A, c, rfl, hc, hm⟩ := h.formA
    refine ⟨A, c, rfl, hc, hm, fun a ha hl => ?_⟩
    subst ha
    exact h.lt a.block (rowOf_slice (by omega))
  · intro i x hi
    have hil : i < l.length := (List.getElem?_eq_some_iff.1 hi).1
    refine ⟨enc x, ?_, rfl, hok x (List.mem_of_getElem? hi)⟩
    rcases h.2 with ⟨h2, _⟩ | ⟨g, o, cap, cur, fz, rfl, hg, _, _, _, _, _, hc⟩
    · omega
    · have hcell := h.cells rfl hc
      intro j u hu
      have hx : (l.map enc)[i]? = some (enc x) := by rw [List.getElem?_map, hi]; rfl
      have hil' : i < (l.map enc).length := by simpa using hil
      have hf := flatAt (l.map enc) n' (fun cs hcs => by obtain ⟨y, _, rfl⟩ := List.mem_map.1 hcs; exact h0 y) i hil' j u (by
        rw [List.getElem?_eq_getElem hil'] at hx
        injection hx with hx
        rw [hx]; exact hu)
      rw [← List.flatMap_def] at hf
      have := hcell _ u hf
      rw [show (Shape.flat n' enc ok h0 h1).size = n' from rfl]
      simpa only [elemA, add_lit, Nat.add_assoc] using this
  · intro hl
    rcases h.2 with ⟨h2, _⟩ | ⟨g, o, cap, cur, fz, rfl, _⟩
    · omega
    · exact ⟨_, _, rfl⟩
end
section
variable {P : Program} {w : World}
theorem run_append_tail {t u ty e : TypeId} {size by_ : Nat} {z : List Value} (ht : slT P t = some (e, size, by_, z)) {v x : Value} {n m : Nat} {xs news : List Value} (hown : OwnA w e size v n xs) (hs : Src P w u size x m news)
    (h63 : n + m ≤ maxLen) (hby : (n + m) * by_ ≤ 140737488355328) :
    ∃ v' w', (Builtin.append_ #[t, u] ty #[v, x]).run P w = .ok v' w' ∧ OwnA w' e size v' (n + m) (xs ++ news) ∧ w.grownBy w' v.rowOf ∧ (v'.rowOf = v.rowOf ∨ v'.rowOf = some w.heap.size) := by
  rcases hown.2 with ⟨rfl, A, rfl⟩ | ⟨g, o, cap, cur, fz, rfl, hg, hfz, hnc, hcm, hcs, htake, hcp⟩
  · have hx : xs = [] := List.eq_nil_of_length_eq_zero (by simpa using hown.1)
    subst hx
    obtain ⟨v', w', h1, h2, h3, h4⟩ := run_append_gen (P := P) (w := w) (ty := ty) ht (Own.zero w 0 e size A) hs h63 hby (Nat.zero_le _)
    exact ⟨v', w', h1, h2.any, h3, h4⟩
  · obtain ⟨hu, inf, zv, hi, hsz, hb, hz, hc, hl⟩ := slT_spec ht
    subst hsz
    subst hb
    have hsmall : n + m ≤ 9223372036854775807 := by simp only [maxLen] at h63; omega
    have hlen : (xs ++ news).length = (n + m) * inf.size := by rw [List.length_append, hown.1, hs.len, Nat.add_mul]
    have hzs : zv.cells.size = inf.size := by rw [hc]; simpa using hl
    have hinfz : ∀ W : World, (zeroValue e).run P W = .ok zv W := fun W => by simp [zeroValue, typeInfo, hi, hz]
    by_cases hroom : n + m ≤ cap
    · have hfit : n * inf.size + news.length ≤ cap * inf.size := by rw [hs.len, ← Nat.add_mul]; exact Nat.mul_le_mul_right _ hroom
      have hfit2 : o + n * inf.size + news.length ≤ cur.size := by omega
      refine ⟨_, _, ?_, ⟨hlen, .inr ⟨g, o, cap, _, fz, rfl, setRow_heap w g cur (cur.toList.take (o + n * inf.size) ++ news ++ cur.toList.drop (o + n * inf.size + news.length)).toArray e _ hg, ?_, hroom, hcm, ?_, ?_, hcp⟩⟩,
        ⟨rfl, rfl, rfl, by simp, fun k _ hk => setRow_other w g k _ (fun e => hk (by rw [rowOf_slice hcp, e]))⟩, .inl (by rw [rowOf_slice hcp, rowOf_slice hcp])⟩
      · have h1 := hs.cells w rfl
        have hst := run_storeCells_fz (P := P) g (o + n * inf.size) e fz news 0 cur w hg hfz (by simpa using hfit2) hs.one
        simp only [Nat.add_zero] at hst
        rcases hs.kind with ⟨e', hud⟩ | hud <;> simp [Builtin.append_, run_underlying hu, run_underlying hud, sizeOf, typeInfo, hi, hs.lenOf, hroom, h1, add_lit, hst]
      · intro h
        have := hfz h
        simp only [List.size_toArray, List.length_append, List.length_take, List.length_drop, Array.length_toList]
        omega
      · simp only [List.size_toArray, List.length_append, List.length_take, List.length_drop, Array.length_toList]
        omega
      · have e0 : (cur.toList.take (o + n * inf.size)).drop o = xs := by rw [List.drop_take, Nat.add_sub_cancel_left]; exact htake
        have e1 : (cur.toList.take (o + n * inf.size) ++ news ++ cur.toList.drop (o + n * inf.size + news.length)).toArray.toList.drop o = xs ++ news ++ cur.toList.drop (o + n * inf.size + news.length) := by
          show List.drop o (_ ++ _ ++ _) = _
          have hlo : o ≤ (cur.toList.take (o + n * inf.size)).length := by
            simp only [List.length_take, Array.length_toList]; omega
          rw [List.append_assoc, List.drop_append_of_le_length hlo, e0, List.append_assoc]
        rw [e1, ← hlen]
        exact List.take_left
    · have old : cap < n + m := by omega
      have hgr : OwnA (w.drew.alloc (.cells (xs.toArray ++ news.toArray ++ Builtin.zeroCells zv.cells (grownCap w (n + m) cap e - (n + m))) e)) e inf.size (.slice (some ⟨w.heap.size, 0, none⟩) (n + m) (grownCap w (n + m) cap e)) (n + m) (xs ++ news) ∧
          w.grownBy (w.drew.alloc (.cells (xs.toArray ++ news.toArray ++ Builtin.zeroCells zv.cells (grownCap w (n + m) cap e - (n + m))) e)) (Value.rowOf (.slice (some ⟨g, o, none⟩) n cap)) := by
        have hge := grownCap_ge w (n + m) cap e
        have hcm2 : grownCap w (n + m) cap e ≤ maxLen := grownCap_le_maxLen w (n + m) cap e h63
        refine ⟨⟨hlen, .inr ⟨w.heap.size, 0, _, _, (0, 0), rfl, heap_alloc_new w.drew _, fun h => by simp at h, hge, hcm2, ?_, ?_, by omega⟩⟩, ⟨rfl, rfl, rfl, by simp, fun k hk _ => by rw [Below.heap_alloc w.drew _ k (by simpa using hk)]; rfl⟩⟩
        · simp only [Array.size_append, List.size_toArray, size_zeroCells, hzs, hown.1, hs.len, ← Nat.add_mul, Nat.zero_add]
          congr 1
          omega
        · simp only [Array.toList_append, List.append_assoc, List.drop_zero]
          rw [← List.append_assoc, ← hlen]
          exact List.take_left
      have hge0 := grownCap_ge w (n + m) cap e
      refine ⟨_, _, ?_, hgr.1, hgr.2, .inr (rowOf_slice (by omega))⟩
      have h1 := hs.cells w.drew rfl
      have hfo := run_firstCells_some (P := P) w.drew inf.size n ⟨g, o, none⟩ n cap xs hown.1 (hown.cells rfl hcp)
      have h63' : ¬ (9223372036854775807 < (n : Int) + (m : Int)) := by omega
      have h48' : ¬ (281474976710656 < Builtin.nextslicecap (n + m) cap * inf.bytes) := by
        have := growslice_fits (need := n + m) (old := cap) (by omega) hby
        omega
      rcases hs.kind with ⟨e', hud⟩ | hud <;> simp [Builtin.append_, run_underlying hu, run_underlying hud, sizeOf, typeInfo, hi, hs.lenOf, hroom, h63', h48', hinfz, hfo, h1, Question.forced, newRow, grownCap] <;> (rw [← Array.append_assoc]; simp)
end
/-- .. of a colour. -/
structure TailC (c : Nat → Nat) (w : World) (i : Nat) (e : TypeId) (size : Nat) (v : Value) (n : Nat) (xs : List Value) : Prop where
  own : OwnA w e size v n xs
  col : ∀ k, v.rowOf = some k → c k = i
section
variable {c c' : Nat → Nat} {w w' W w0 : World} {i : Nat} {e : TypeId} {size : Nat} {v : Value} {n : Nat} {xs : List Value} {I J : List Nat}
theorem OwnC.tail (h : OwnC c w i e size v n xs) : TailC c w i e size v n xs := ⟨h.own.any, h.col⟩
theorem TailC.mv (h : TailC c w i e size v n xs) (m : Mv c w c' w' I) (hi : hasC I i = false) : TailC c' w' i e size v n xs :=
  ⟨h.own.keepB fun k hk => m.block k (h.own.lt k hk) (by rw [h.col k hk]; exact hi), fun k hk => (m.col k (h.own.lt k hk)).trans (h.col k hk)⟩
theorem TailC.kp (h : TailC c w0 i e size v n xs) (hW : Kp c w0 J W) (hi : hasC J i = false) : TailC c W i e size v n xs :=
  ⟨h.own.keepB fun k hk => hW.2 k (h.own.lt k hk) (by rw [h.col k hk]; exact hi), h.col⟩
theorem rowOf_subV {v : Value} {lo hi sz k : Nat} (h : (subV v lo hi sz).rowOf = some k) : v.rowOf = some k := by
  cases v with
  | slice A m cp =>
    simp only [subV] at h
    by_cases hc : cp = lo
    · subst hc
      rw [if_pos rfl, Nat.sub_self, rowOf_zero] at h; cases h
    · rw [if_neg hc] at h
      cases A with
      | none => simp [Value.rowOf] at h
      | some a =>
        by_cases h0 : cp = 0
        · subst h0
          rw [Nat.zero_sub, rowOf_zero] at h; cases h
        · have hcp : 0 < cp := by omega
          rw [rowOf_slice hcp]
          by_cases h1 : cp - lo = 0
          · rw [h1, rowOf_zero] at h; cases h
          · rw [Option.map_some, rowOf_slice (by omega), add_block] at h
            exact h
  | _ => exact h
theorem TailC.from (h : TailC c w i e size v n xs) {k : Nat} (hk : k ≤ n) : TailC c w i e size (subV v k n size) (n - k) (xs.drop (k * size)) := ⟨h.own.from hk, fun j hj => h.col j (rowOf_subV hj)⟩
theorem TailC.rest {α : Type} {enc : α → List Value} {d : α} {t : List α} (h : TailC c w i e size v (d :: t).length ((d :: t).flatMap enc)) (he : (enc d).length = size) : TailC c w i e size (subV v (1 : Int).toNat (d :: t).length size) t.length (t.flatMap enc) := by
  have := h.from (k := 1) (by simp)
  rw [List.flatMap_cons, Nat.one_mul, ← he, List.drop_left] at this
  rw [← he]
  simpa using this
theorem TailC.foot (h : TailC c w i e size v n xs) : FtC (fun w' => OwnA w' e size v n xs) c w [i] := fun w' hs hk =>
  h.own.keepB fun k hv => hk k (by show hasC [i] (c k) = true; rw [h.col k hv]; simp [hasC]) (h.own.lt k hv)
theorem TailC.rdFlat {α : Type} {n' : Nat} {enc : α → List Value} {ok : α → Prop} {h0 : ∀ x, (enc x).length = n'} {h1 : ∀ x, ∀ u ∈ enc x, u.oneCell' = true} {l : List α}
    (h : TailC c w i e n' v l.length (l.flatMap enc)) (hsm : l.length ≤ 140737488355328) (hok : ∀ x ∈ l, ok x) : RdC (Shape.flat n' enc ok h0 h1) c w [i] v l := fun w' hs hk =>
  OwnA.rdFlat hsm (h.foot w' hs hk) hok
theorem TailC.cellsV (h : TailC c w i e size v n xs) : v.cells = #[v] := by obtain ⟨A, cp, rfl, _⟩ := h.own.formA; rfl
theorem TailC.oneC (h : TailC c w i e size v n xs) : v.oneCell' = true := by obtain ⟨A, cp, rfl, _⟩ := h.own.formA; rfl
variable {P : Program} {env : Env} {ty : TypeId}
theorem Eff.appendT {s x : Operand} {t u e : TypeId} {size by_ : Nat} {z : List Value} (ht : slT P t = some (e, size, by_, z)) {i : Nat} {v xv : Value} {n m : Nat} {xs news : List Value}
    (hs : evO env s = some v) (hx : evO env x = some xv) (hown : TailC c w i e size v n xs) (hsrc : Src P w u size xv m news) (h63 : n + m ≤ maxLen) (hby : (n + m) * by_ ≤ 140737488355328) :
    Eff P env w (.call ⟨.builtin .append, #[s, x], #[t, u]⟩) ty (fun v' w' => ∃ c', Mv c w c' w' [i] ∧ TailC c' w' i e size v' (n + m) (xs ++ news)) :=
  Eff.of_run fun _ a ho d pos after g => by
    obtain ⟨v', w', h1, h2, h3, h4⟩ := run_append_tail (P := P) (w := w) (ty := ty) ht hown.own hsrc h63 hby
    obtain ⟨c', hm, hx2⟩ := Mv.grown c i h3 hown.col
    refine ⟨v', w', by simp [execOp, resolve, invoke, builtin, ho.eval hs, ho.eval hx, h1], c', hm, h2, fun k hk => ?_⟩
    rcases h4 with e1 | e1
    · rw [e1] at hk
      rw [hm.col k (hown.own.lt k hk)]
      exact hown.col k hk
    · rw [hk] at e1; injection e1 with e1
      exact hx2 k (Nat.le_of_eq e1.symm)
end
end Eng
end Go

namespace Silo
open Go Go.Eng
theorem thgAt_eq {T : List Thg} {k : Nat} (ka : k < T.length) (hp : ((k : Int) - 1).toNat < T.length) : thgAt T k = (decide ((T[k].digest.length : Int) = 32) && decide ((T[k].text.length : Int) ≤ 2000) && !(decide (0 < (k : Int)) && !Op.bytesLess T[((k : Int) - 1).toNat].digest T[k].digest) && (!T[k].manifest || (manTake T[k].text).isSome)) := by
  have e : ((k : Int) - 1).toNat = k - 1 := by omega
  simp only [thgAt, List.getElem?_eq_getElem ka, List.getElem?_eq_getElem (show k - 1 < T.length by omega), e, Option.map_some, Option.getD_some]
  have h1 : decide (k = 0) = !decide (0 < (k : Int)) := by rw [Bool.eq_iff_iff]; simp
  have h2 : decide (T[k].digest.length = 32) = decide ((T[k].digest.length : Int) = 32) := by rw [Bool.eq_iff_iff]; simp; omega
  have h3 : decide (T[k].text.length ≤ 2000) = decide ((T[k].text.length : Int) ≤ 2000) := by rw [Bool.eq_iff_iff]; simp; omega
  rw [h1, h2, h3]
  cases decide (0 < (k : Int)) <;> simp
theorem thgsMay_no {T : List Thg} {k : Nat} (ka : k < T.length) (h : thgAt T k = false) : thgsMay T = false := by
  cases hc : thgsMay T with
  | false => rfl
  | true => rw [(thgsMay_iff.1 hc).2 k ka] at h; cases h
theorem thgsMay_yes {T : List Thg} {k : Nat} (hk : T.length ≤ k) (hl : T.length ≤ 60) (h : ∀ i, i < k → thgAt T i = true) : thgsMay T = true := thgsMay_iff.2 ⟨hl, fun i hi => h i (by omega)⟩
theorem thgsMay_long {T : List Thg} (hl : 60 < T.length) : thgsMay T = false := by
  cases hc : thgsMay T with
  | false => rfl
  | true => have := (thgsMay_iff.1 hc).1; omega
def thgW (t : Thg) : Nat := t.digest.length + t.text.length
def thgsW (T : List Thg) : Nat := stopSum T.length (T.map thgW)
theorem findT_take {T : List Thg} {d : List UInt8} {k : Nat} (hk : k < T.length) (h : ∀ i (hi : i < T.length), i < k → T[i].digest ≠ d) (he : T[k].digest = d) : findT T d = some k := by
  unfold findT
  rw [List.findIdx?_eq_some_iff_getElem]
  exact ⟨hk, by simpa using he, fun j hj => by simpa using h j (by omega) hj⟩
theorem findT_nil {T : List Thg} {d : List UInt8} (h : ∀ i (hi : i < T.length), i < T.length → T[i].digest ≠ d) : findT T d = none := by
  unfold findT
  rw [List.findIdx?_eq_none_iff]
  intro x hx
  obtain ⟨i, hi, rfl⟩ := List.mem_iff_getElem.1 hx
  simpa using h i hi hi
/-- The place of a digest; -1: there is none. -/
def atT (T : List Thg) (d : List UInt8) : Int := match findT T d with | some i => (i : Int) | none => -1
theorem thg_eq (a b : Thg) : cellsEq (encThg a) (encThg b) = decide (a = b) := by
  obtain ⟨a1, a2, a3⟩ := a
  obtain ⟨b1, b2, b3⟩ := b
  rw [Bool.eq_iff_iff]
  simp [cellsEq, cellEq, encThg, and_assoc]
end Silo
namespace Go.Eng
open Silo
theorem Own.rdThgs {w : World} {base : Nat} {e : TypeId} {v : Value} {l : List Thg} (h : Own w base e 3 v l.length (l.flatMap encThg)) (hok : ∀ x ∈ l, x.digest.length ≤ 140737488355328 ∧ x.text.length ≤ 140737488355328) (hsm : l.length ≤ 140737488355328) : RdS thgS w.heap.size w v l := Own.rdFlat hsm h hok
end Go.Eng
namespace Go.Proofs.Ytnddlhjafkhdoaa
open Go Go.Eng Go.RowKit Silo TryT

set_option maxHeartbeats 1000000 in
theorem pthings_ok {w : World} {v : Value} {T : List Thg} (h0 : Rd thgS w v T) : Calls Try.prog 33 #[v] w (Ret fun v' w' => Below w.heap.size w w' ∧ v' = .bool (thgsMay T)) := by
  obtain ⟨c, hO, hc⟩ := OldC.start w
  have hsm := h0.small
  have h1 : RdC thgS c w [0] v T := Rd.toC h0 (fun k hk => by simp [hc, hasC])
  clear hc h0
  refine enter (n := 71) (res := #[.tmp 2]) Try.func33 rfl rfl rfl rfl ?_
  refine cseq <| cregion <| qq (Val.assign rfl) rfl <| cnil <| cseq <| cseq <| cregion <| qq (Val.assign rfl) rfl <| cnil ?_
  refine cblock ?_
  refine WC.loop (σ := Nat) (fun k => [(0, v), (3, I k)]) (fun k w' => ∃ c', OldC w c' w' ∧ RdC thgS c' w' [0] v T ∧ k ≤ T.length ∧ k ≤ 61 ∧ ∀ i, i < k → thgAt T i = true) (fun k => T.length - k) 0 (by repeat (first | exact Sub.nil _ | refine Sub.cons rfl ?_ | refine Sub.consM rfl ?_)) ⟨_, hO, h1, by omega, by omega, fun i hi => absurd hi (Nat.not_lt_zero _)⟩ ?_
  clear hO h1
  rintro k wl ⟨cl, hO, h1, hk, hk6, hd⟩
  refine cseq <| cseq <| cregion <| qq (Val.move rfl) rfl <| qq (Val.move rfl) rfl ?_
  first | refine WR.val (Val.rdlen sl52 (by assumption) rfl) rfl ?_ | refine WR.val (Val.sllen Try.underlying52 rfl) rfl ?_ | refine WR.val (Val.olen sl52 (by assumption) rfl) rfl ?_ | refine WR.val (Val.rdlenC sl52 (by assumption) rfl) rfl ?_
  refine qq (Val.lss rfl rfl) rfl <| qq (Val.move rfl) rfl ?_
  apply WR.sc true 2 _ (fun w' => wl = w')
  case hl => rfl
  case hg => rfl
  case hu => rfl
  case hv => rfl
  case hs => rfl
  case hoff => rfl
  case hd => rfl
  case hF => exact fun _ => rfl
  case hT =>
   intro hq7
   try simp only [tstS] at hq7
   simp only [List.take_succ_cons, List.take_zero]
   refine WR.on rfl rfl ?_
   refine qq (Val.move rfl) rfl ?_
   refine WR.on rfl rfl ?_
   refine qq (Val.leq rfl rfl) rfl ?_
   exact WR.nil ⟨rfl, Sub.drop _ 2 _ rfl rfl, rfl⟩
  rintro _ rfl
  refine cnil ?_
  refine WC.cond rfl (fun hc2 => ?_) (fun hc2 => ?_)
  ·try simp only [tstS] at hc2
   obtain ⟨hc2, hc2'⟩ := hc2
   have ka : k < T.length := by omega
   obtain ⟨hc18, ok1⟩ := RdC.elFlat h1 ka (by decide)
   have hpr : ((k : Int) - 1).toNat < T.length := by omega
   obtain ⟨hc39, _⟩ := RdC.elFlat h1 hpr (by decide)
   have hc26 := hc18; have hc44 := hc18
   have hat := thgAt_eq ka hpr
   refine cskip <| cseq <| cblock <| cseq <| cseq ?_
   refine WC.regionD (Kp cl wl []) [0, 0, 0, 0, 1, 0, 0, 0, 0, 0, 0, 0, 1, 0, 0, 0, 0, 0, 0, 0, 0, 0, 0, 0, 0, 1, 0, 0, 0, 0, 1, 0, 0, 0] [0, 1, 2, 3, 4, 5, 6, 7, 8, 9, 10, 11, 12, 13, 14, 15, 16, 17, 18, 19, 20, 21, 22, 23, 24, 25, 26, 27, 28, 29, 30, 31, 32, 33] mixed (by kernel_rfl) ?_
   have hM1 := Mv.drew cl wl []
   have hCw := Mv.drew cl wl []
   generalize wl.drew = w1 at hM1 hCw ⊢
   have hc180 := hc18
   have hc390 := hc39
   have hc260 := hc26
   have hc440 := hc44
   replace hO := hO.mv hM1 rfl; replace h1 := h1.mv hM1 rfl; replace hc18 := hc18.mv hM1 rfl; replace hc39 := hc39.mv hM1 rfl; replace hc26 := hc26.mv hM1 rfl; replace hc44 := hc44.mv hM1 rfl
   refine qd rfl rfl rfl (fun _ => Val.move rfl) rfl <| qd rfl rfl rfl (fun _ => Val.move rfl) rfl ?_
   first | refine WD.val rfl rfl rfl (fun _ => Val.indexAddr sl52 (by assumption) rfl rfl rfl (by first | omega | assumption | (simp; omega) | (simp; done)) (by first | omega | assumption | (simp; omega) | (simp; done))) rfl ?_ | refine WD.val rfl rfl rfl (fun _ => Val.indexC sl52 (by assumption) rfl rfl (by first | omega | assumption | (simp; omega) | (simp; done)) (by first | omega | assumption | (simp; omega) | (simp; done))) rfl ?_ | refine WD.val rfl rfl rfl (fun _ => Val.indexO sl52 (by assumption) rfl rfl (by first | omega | assumption | (simp; omega) | (simp; done)) (by first | omega | assumption | (simp; omega) | (simp; done))) rfl ?_
   first | refine WD.val rfl rfl rfl (fun _ => Val.fieldAddr fld62_0 rfl) rfl ?_ | refine WD.val rfl rfl rfl (fun _ => Val.fieldAddrP fld62_0 rfl) rfl ?_
   refine qc rfl rfl rfl hCw.kp (fun W hW => Val.loadEf scl9 rfl (hc180.kp hW rfl).cel rfl) rfl <| qd rfl rfl rfl (fun _ => Val.slen Try.underlying9 rfl) rfl <| qd rfl rfl rfl (fun _ => Val.neq rfl rfl) rfl <| qd rfl rfl rfl (fun _ => Val.move rfl) rfl ?_
   apply WD.sc false 7 _ (fun w' => w1 = w')
   case hl => rfl
   case hi => rfl
   case hk => rfl
   case hg => rfl
   case hu => rfl
   case hv => rfl
   case hs => rfl
   case hoff => rfl
   case hd => rfl
   case hC => exact hCw.kp
   case hF => exact fun _ => rfl
   case hT =>
    intro hq15
    try simp only [tstS] at hq15
    simp only [List.take_succ_cons, List.take_zero]
    refine qd rfl rfl rfl (fun _ => Val.move rfl) rfl <| qd rfl rfl rfl (fun _ => Val.move rfl) rfl ?_
    first | refine WD.val rfl rfl rfl (fun _ => Val.indexAddr sl52 (by assumption) rfl rfl rfl (by first | omega | assumption | (simp; omega) | (simp; done)) (by first | omega | assumption | (simp; omega) | (simp; done))) rfl ?_ | refine WD.val rfl rfl rfl (fun _ => Val.indexC sl52 (by assumption) rfl rfl (by first | omega | assumption | (simp; omega) | (simp; done)) (by first | omega | assumption | (simp; omega) | (simp; done))) rfl ?_ | refine WD.val rfl rfl rfl (fun _ => Val.indexO sl52 (by assumption) rfl rfl (by first | omega | assumption | (simp; omega) | (simp; done)) (by first | omega | assumption | (simp; omega) | (simp; done))) rfl ?_
    first | refine WD.val rfl rfl rfl (fun _ => Val.fieldAddr fld62_1 rfl) rfl ?_ | refine WD.val rfl rfl rfl (fun _ => Val.fieldAddrP fld62_1 rfl) rfl ?_
    refine qc rfl rfl rfl hCw.kp (fun W hW => Val.loadEf scl9 rfl (hc260.kp hW rfl).cel rfl) rfl <| qd rfl rfl rfl (fun _ => Val.slen Try.underlying9 rfl) rfl <| qd rfl rfl rfl (fun _ => Val.gtr rfl rfl) rfl ?_
    exact WD.nil ⟨rfl, Sub.drop _ 7 _ rfl rfl, rfl⟩
   rintro _ rfl
   refine qd rfl rfl rfl (fun _ => Val.move rfl) rfl ?_
   apply WD.sc false 16 _ (fun w' => w1 = w')
   case hl => rfl
   case hi => rfl
   case hk => rfl
   case hg => rfl
   case hu => rfl
   case hv => rfl
   case hs => rfl
   case hoff => rfl
   case hd => rfl
   case hC => exact hCw.kp
   case hF => exact fun _ => rfl
   case hT =>
    intro hq33
    try simp only [tstS] at hq33
    simp only [List.take_succ_cons, List.take_zero]
    refine qd rfl rfl rfl (fun _ => Val.move rfl) rfl <| qd rfl rfl rfl (fun _ => Val.gtr rfl rfl) rfl <| qd rfl rfl rfl (fun _ => Val.move rfl) rfl ?_
    apply WD.sc true 12 _ (fun w' => w1 = w')
    case hl => rfl
    case hi => rfl
    case hk => rfl
    case hg => rfl
    case hu => rfl
    case hv => rfl
    case hs => rfl
    case hoff => rfl
    case hd => rfl
    case hC => exact hCw.kp
    case hF => exact fun _ => rfl
    case hT =>
     intro hq32
     try simp only [tstS] at hq32
     simp only [List.take_succ_cons, List.take_zero]
     refine qd rfl rfl rfl (fun _ => Val.move rfl) rfl <| qd rfl rfl rfl (fun _ => Val.move rfl) rfl <| qd rfl rfl rfl (fun _ => Val.subI rfl rfl (by first | omega | assumption | (simp; omega) | (simp; done)) (by first | omega | assumption | (simp; omega) | (simp; done))) rfl ?_
     first | refine WD.val rfl rfl rfl (fun _ => Val.indexAddr sl52 (by assumption) rfl rfl rfl (by first | omega | assumption | (simp; omega) | (simp; done)) (by first | omega | assumption | (simp; omega) | (simp; done))) rfl ?_ | refine WD.val rfl rfl rfl (fun _ => Val.indexC sl52 (by assumption) rfl rfl (by first | omega | assumption | (simp; omega) | (simp; done)) (by first | omega | assumption | (simp; omega) | (simp; done))) rfl ?_ | refine WD.val rfl rfl rfl (fun _ => Val.indexO sl52 (by assumption) rfl rfl (by first | omega | assumption | (simp; omega) | (simp; done)) (by first | omega | assumption | (simp; omega) | (simp; done))) rfl ?_
     first | refine WD.val rfl rfl rfl (fun _ => Val.fieldAddr fld62_0 rfl) rfl ?_ | refine WD.val rfl rfl rfl (fun _ => Val.fieldAddrP fld62_0 rfl) rfl ?_
     refine qc rfl rfl rfl hCw.kp (fun W hW => Val.loadEf scl9 rfl (hc390.kp hW rfl).cel rfl) rfl <| qd rfl rfl rfl (fun _ => Val.move rfl) rfl <| qd rfl rfl rfl (fun _ => Val.move rfl) rfl ?_
     first | refine WD.val rfl rfl rfl (fun _ => Val.indexAddr sl52 (by assumption) rfl rfl rfl (by first | omega | assumption | (simp; omega) | (simp; done)) (by first | omega | assumption | (simp; omega) | (simp; done))) rfl ?_ | refine WD.val rfl rfl rfl (fun _ => Val.indexC sl52 (by assumption) rfl rfl (by first | omega | assumption | (simp; omega) | (simp; done)) (by first | omega | assumption | (simp; omega) | (simp; done))) rfl ?_ | refine WD.val rfl rfl rfl (fun _ => Val.indexO sl52 (by assumption) rfl rfl (by first | omega | assumption | (simp; omega) | (simp; done)) (by first | omega | assumption | (simp; omega) | (simp; done))) rfl ?_
     first | refine WD.val rfl rfl rfl (fun _ => Val.fieldAddr fld62_0 rfl) rfl ?_ | refine WD.val rfl rfl rfl (fun _ => Val.fieldAddrP fld62_0 rfl) rfl ?_
     refine qc rfl rfl rfl hCw.kp (fun W hW => Val.loadEf scl9 rfl (hc440.kp hW rfl).cel rfl) rfl <| qd rfl rfl rfl (fun _ => Val.sgeq rfl rfl) rfl ?_
     exact WD.nil ⟨rfl, Sub.drop _ 12 _ rfl rfl, rfl⟩
    rintro _ rfl
    exact WD.nil ⟨rfl, Sub.drop _ 4 _ rfl rfl, rfl⟩
   rintro _ rfl
   refine WD.nil ?_
   clear hc180 hc390 hc260 hc440
   clear hCw
   refine WC.cond rfl (fun hc4 => ?_) (fun hc4 => ?_)
   ·try simp only [tstS] at hc4
    have hno : thgAt T k = false := by
      rw [hat]
      rcases hc4 with (h | h) | ⟨h, h'⟩
      · rw [decide_eq_false h]; rfl
      · rw [decide_eq_false (show ¬ (T[k].text.length : Int) ≤ 2000 by omega)]; simp
      · rw [decide_eq_true h, h']; simp
    refine cseq <| cregion <| qq (Val.assign rfl) rfl <| cnil ?_
    refine WC.ret1 rfl rfl ?_
    exact ⟨hO.below, by rw [thgsMay_no ka hno]⟩
   ·try simp only [tstS] at hc4
    obtain ⟨⟨hc4a, hc4b⟩, hc4c⟩ := hc4
    have hc53 := hc18; have hc61 := hc18
    refine cskip <| cseq <| cregion <| qq (Val.move rfl) rfl <| qq (Val.move rfl) rfl ?_
    first | refine WR.val (Val.indexAddr sl52 (by assumption) rfl rfl rfl (by first | omega | assumption | (simp; omega) | (simp; done)) (by first | omega | assumption | (simp; omega) | (simp; done))) rfl ?_ | refine WR.val (Val.indexC sl52 (by assumption) rfl rfl (by first | omega | assumption | (simp; omega) | (simp; done)) (by first | omega | assumption | (simp; omega) | (simp; done))) rfl ?_ | refine WR.val (Val.indexO sl52 (by assumption) rfl rfl (by first | omega | assumption | (simp; omega) | (simp; done)) (by first | omega | assumption | (simp; omega) | (simp; done))) rfl ?_
    first | refine WR.val (Val.fieldAddr fld62_1 rfl) rfl ?_ | refine WR.val (Val.fieldAddrP fld62_1 rfl) rfl ?_
    refine qq (Val.loadEf scl9 rfl hc53.cel rfl) rfl ?_
    refine WR.eff (Eff.pureC cl 1 (Eff.call pf26 rfl (pmtake_ok T[k].text (by omega)))) rfl ?_
    rintro v56 w2 ⟨c2, hM2, hx2, ⟨cs, rfl, hm⟩⟩
    replace hO := hO.mv hM2 rfl; replace h1 := h1.mv hM2 rfl; replace hc53 := hc53.mv hM2 rfl; replace hc61 := hc61.mv hM2 rfl
    obtain ⟨mv, ms, rfl, mr1, mr2, mq⟩ := hm
    have o1 := mr1.oneC; have o2 := mr2.oneC
    clear mr1 mr2 mq
    refine qq (Val.move rfl) rfl <| qq (Val.extract rfl rfl) rfl <| qq (Val.extract rfl rfl) rfl ?_
    refine WR.eff (Eff.allocC c2 104 zero29) rfl ?_
    rintro _ w3 ⟨b4, c3, rfl, hM3, hb4⟩
    replace hO := hO.mv hM3 rfl; replace h1 := h1.mv hM3 rfl; replace hc53 := hc53.mv hM3 rfl; replace hc61 := hc61.mv hM3 rfl
    refine WR.eff_ (Eff.storeNC agg29 rfl rfl hb4 rfl rfl (by repeat (first | exact List.forall_mem_nil _ | refine List.forall_mem_cons.2 ⟨by first | rfl | assumption, ?_⟩))) ?_
    rintro _ w4 ⟨hS, hM4⟩
    replace hO := hO.mv hM4 rfl; replace h1 := h1.mv hM4 rfl; replace hc53 := hc53.mv hM4 rfl; replace hc61 := hc61.mv hM4 rfl
    replace hb4 := hS
    refine qq (Val.assign rfl) rfl <| cnil <| cseq <| cregion <| qq (Val.move rfl) rfl <| qq (Val.move rfl) rfl ?_
    first | refine WR.val (Val.indexAddr sl52 (by assumption) rfl rfl rfl (by first | omega | assumption | (simp; omega) | (simp; done)) (by first | omega | assumption | (simp; omega) | (simp; done))) rfl ?_ | refine WR.val (Val.indexC sl52 (by assumption) rfl rfl (by first | omega | assumption | (simp; omega) | (simp; done)) (by first | omega | assumption | (simp; omega) | (simp; done))) rfl ?_ | refine WR.val (Val.indexO sl52 (by assumption) rfl rfl (by first | omega | assumption | (simp; omega) | (simp; done)) (by first | omega | assumption | (simp; omega) | (simp; done))) rfl ?_
    first | refine WR.val (Val.fieldAddr fld62_2 rfl) rfl ?_ | refine WR.val (Val.fieldAddrP fld62_2 rfl) rfl ?_
    refine qq (Val.loadEf scl4 rfl hc61.cel rfl) rfl <| qq (Val.move rfl) rfl ?_
    apply WR.sc true 2 _ (fun w' => w4 = w')
    case hl => rfl
    case hg => rfl
    case hu => rfl
    case hv => rfl
    case hs => rfl
    case hoff => rfl
    case hd => rfl
    case hF => exact fun _ => rfl
    case hT =>
     intro hq8
     try simp only [tstS] at hq8
     simp only [List.take_succ_cons, List.take_zero]
     refine WR.on rfl rfl ?_
     refine qq (Val.move rfl) rfl ?_
     refine WR.on rfl rfl ?_
     refine qq (Val.not rfl) rfl ?_
     exact WR.nil ⟨rfl, Sub.drop _ 2 _ rfl rfl, rfl⟩
    rintro _ rfl
    refine cnil ?_
    refine WC.cond rfl (fun hc7 => ?_) (fun hc7 => ?_)
    ·try simp only [tstS] at hc7
     have hno : thgAt T k = false := by
       rw [hat, hc7.1, hc7.2]; simp
     refine cseq <| cregion <| qq (Val.assign rfl) rfl <| cnil ?_
     refine WC.ret1 rfl rfl ?_
     exact ⟨hO.below, by rw [thgsMay_no ka hno]⟩
    ·try simp only [tstS] at hc7
     have hye : thgAt T k = true := by
       rw [hat, decide_eq_true hc4a, decide_eq_true (show (T[k].text.length : Int) ≤ 2000 by omega), hc4c]
       cases hm : T[k].manifest with
       | false => rfl
       | true => rw [hm] at hc7; simp at hc7; simp [hc7]
     refine cskip <| cregion <| qq (Val.move rfl) rfl <| qq (Val.addI rfl rfl (by first | omega | assumption | (simp; omega) | (simp; done)) (by first | omega | assumption | (simp; omega) | (simp; done))) rfl <| qq (Val.assign rfl) rfl <| cnil ?_
     exact ⟨k + 1, (by repeat (first | exact Sub.nil _ | refine Sub.cons rfl ?_ | refine Sub.consM rfl ?_)), ⟨_, hO, h1, ka, by omega, below_succ hd hye⟩, by omega⟩
  ·try simp only [tstS] at hc2
   have hkk : T.length ≤ k ∨ 60 < k := by
     rw [Bool.and_eq_false_iff] at hc2
     simp only [decide_eq_false_iff_not] at hc2
     omega
   refine WC.exit rfl ?_
   refine cseq <| cregion <| qq (Val.move rfl) rfl ?_
   first | refine WR.val (Val.rdlen sl52 (by assumption) rfl) rfl ?_ | refine WR.val (Val.sllen Try.underlying52 rfl) rfl ?_ | refine WR.val (Val.olen sl52 (by assumption) rfl) rfl ?_ | refine WR.val (Val.rdlenC sl52 (by assumption) rfl) rfl ?_
   refine qq (Val.leq rfl rfl) rfl <| qq (Val.assign rfl) rfl <| cnil ?_
   refine WC.ret1 rfl rfl ?_
   refine ⟨hO.below, ?_⟩
   rcases hkk with h | h
   · by_cases h6 : T.length ≤ 60
     · rw [decide_eq_true (show (T.length : Int) ≤ 60 by omega), thgsMay_yes h h6 hd]
     · rw [decide_eq_false (show ¬ (T.length : Int) ≤ 60 by omega), thgsMay_long (by omega)]
   · rw [decide_eq_false (show ¬ (T.length : Int) ≤ 60 by omega), thgsMay_long (by omega)]

theorem at_ok {w : World} {v : Value} {T : List Thg} {d : List UInt8} (h1 : Rd thgS w v T) : Calls Try.prog 38 #[v, St d] w (Ret fun v' w' => Below w.heap.size w w' ∧ v' = I (atT T d)) := by
  have hK : Old w w := Old.refl w
  have hsm := h1.small
  refine enter (n := 20) (res := #[.tmp 4]) Try.func38 rfl rfl rfl rfl ?_
  refine cseq <| cregion <| qq (Val.assign rfl) rfl <| cnil <| cseq <| cseq <| cregion <| qq (Val.assign rfl) rfl <| cnil ?_
  refine cblock ?_
  refine WC.loop (σ := Nat) (fun k => [(0, v), (1, St d), (5, I k)]) (fun k w' => Rd thgS w' v T ∧ Old w w' ∧ k ≤ T.length ∧ ∀ i (hi : i < T.length), i < k → T[i].digest ≠ d) (fun k => T.length - k) 0 (by repeat (first | exact Sub.nil _ | refine Sub.cons rfl ?_ | refine Sub.consM rfl ?_)) ⟨h1, hK, by omega, fun i hi h => absurd h (Nat.not_lt_zero _)⟩ ?_
  rintro k wl ⟨h1, hK, hk, hd⟩
  refine cseq <| cseq <| cregion <| qq (Val.move rfl) rfl <| qq (Val.move rfl) rfl ?_
  first | refine WR.val (Val.rdlen sl52 (by assumption) rfl) rfl ?_ | refine WR.val (Val.sllen Try.underlying52 rfl) rfl ?_
  refine qq (Val.lss rfl rfl) rfl <| cnil ?_
  refine WC.cond rfl (fun hc2 => ?_) (fun hc2 => ?_)
  ·try simp only [tstS] at hc2
   have ka : k < T.length := by omega
   obtain ⟨cs1, hc14, rfl, ok1⟩ := h1.el ka
   refine cskip <| cseq <| cblock <| cseq <| cregion <| qq (Val.move rfl) rfl <| qq (Val.move rfl) rfl <| qq (Val.indexAddr sl52 (by assumption) rfl rfl rfl (by first | omega | assumption | (simp; omega) | (simp; done)) (by first | omega | assumption | (simp; omega) | (simp; done))) rfl ?_
   first | refine WR.val (Val.fieldAddr fld62_0 rfl) rfl ?_ | refine WR.val (Val.fieldAddrP fld62_0 rfl) rfl ?_
   refine qq (Val.loadEf scl9 rfl hc14 rfl) rfl <| qq (Val.move rfl) rfl <| qq (Val.seq_ rfl rfl) rfl <| cnil ?_
   refine WC.cond rfl (fun hc4 => ?_) (fun hc4 => ?_)
   ·try simp only [tstS] at hc4
    have he : T[k].digest = d := by simpa using hc4
    have hf := findT_take ka hd he
    refine cseq <| cregion <| qq (Val.move rfl) rfl <| qq (Val.assign rfl) rfl <| cnil ?_
    refine WC.ret1 rfl rfl ?_
    exact ⟨hK, by rw [atT, hf]⟩
   ·try simp only [tstS] at hc4
    have he : T[k].digest ≠ d := by simpa using hc4
    refine cskip <| cregion <| qq (Val.move rfl) rfl <| qq (Val.addI rfl rfl (by first | omega | assumption | (simp; omega) | (simp; done)) (by first | omega | assumption | (simp; omega) | (simp; done))) rfl <| qq (Val.assign rfl) rfl <| cnil ?_
    exact ⟨k + 1, (by repeat (first | exact Sub.nil _ | refine Sub.cons rfl ?_ | refine Sub.consM rfl ?_)), ⟨h1, hK, ka, fun i hi h => by
      rcases Nat.lt_or_ge i k with h2 | h2
      · exact hd i hi h2
      · have : i = k := by omega
        subst this; exact he⟩, by omega⟩
  ·try simp only [tstS] at hc2
   have : k = T.length := by omega
   subst this
   refine WC.exit rfl ?_
   refine cseq <| cregion <| qq (Val.assign rfl) rfl <| cnil ?_
   refine WC.ret1 rfl rfl ?_
   exact ⟨hK, by rw [atT, findT_nil hd]⟩

theorem zhas_ok {w : World} {v : Value} {l : List (List UInt8)} {d : List UInt8} (h1 : Rd strS w v l) : Calls Try.prog 39 #[v, St d] w (Ret fun v' w' => Below w.heap.size w w' ∧ v' = .bool (l.contains d)) := by
  have hK : Old w w := Old.refl w
  have hsm := h1.small
  refine enter (n := 18) (res := #[.tmp 4]) Try.func39 rfl rfl rfl rfl ?_
  refine cseq <| cregion <| qq (Val.assign rfl) rfl <| cnil <| cseq <| cseq <| cregion <| qq (Val.assign rfl) rfl <| cnil ?_
  refine cblock ?_
  refine WC.loop (σ := Nat) (fun k => [(0, v), (1, St d), (5, I k)]) (fun k w' => Rd strS w' v l ∧ Old w w' ∧ k ≤ l.length ∧ ∀ i (hi : i < l.length), i < k → l[i] ≠ d) (fun k => l.length - k) 0 (by repeat (first | exact Sub.nil _ | refine Sub.cons rfl ?_ | refine Sub.consM rfl ?_)) ⟨h1, hK, by omega, fun i hi h => absurd h (Nat.not_lt_zero _)⟩ ?_
  rintro k wl ⟨h1, hK, hk, hd⟩
  refine cseq <| cseq <| cregion <| qq (Val.move rfl) rfl <| qq (Val.move rfl) rfl ?_
  first | refine WR.val (Val.rdlen sl23 (by assumption) rfl) rfl ?_ | refine WR.val (Val.sllen Try.underlying23 rfl) rfl ?_
  refine qq (Val.lss rfl rfl) rfl <| cnil ?_
  refine WC.cond rfl (fun hc2 => ?_) (fun hc2 => ?_)
  ·try simp only [tstS] at hc2
   have ka : k < l.length := by omega
   obtain ⟨cs1, hc14, rfl, ok1⟩ := h1.el ka
   refine cskip <| cseq <| cblock <| cseq <| cregion <| qq (Val.move rfl) rfl <| qq (Val.move rfl) rfl <| qq (Val.indexAddr sl23 (by assumption) rfl rfl rfl (by first | omega | assumption | (simp; omega) | (simp; done)) (by first | omega | assumption | (simp; omega) | (simp; done))) rfl <| qq (Val.loadE1 scl9 rfl hc14) rfl ?_
   refine qq (Val.move rfl) rfl <| qq (Val.seq_ rfl rfl) rfl <| cnil ?_
   refine WC.cond rfl (fun hc4 => ?_) (fun hc4 => ?_)
   ·try simp only [tstS] at hc4
    have he : l[k] = d := by simpa using hc4
    have hm : l.contains d = true := by rw [List.contains_iff_mem, ← he]; exact List.getElem_mem ka
    refine cseq <| cregion <| qq (Val.assign rfl) rfl <| cnil ?_
    refine WC.ret1 rfl rfl ?_
    exact ⟨hK, by rw [hm]⟩
   ·try simp only [tstS] at hc4
    have he : l[k] ≠ d := by simpa using hc4
    refine cskip <| cregion <| qq (Val.move rfl) rfl <| qq (Val.addI rfl rfl (by first | omega | assumption | (simp; omega) | (simp; done)) (by first | omega | assumption | (simp; omega) | (simp; done))) rfl <| qq (Val.assign rfl) rfl <| cnil ?_
    exact ⟨k + 1, (by repeat (first | exact Sub.nil _ | refine Sub.cons rfl ?_ | refine Sub.consM rfl ?_)), ⟨h1, hK, ka, fun i hi h => by
      rcases Nat.lt_or_ge i k with h2 | h2
      · exact hd i hi h2
      · have : i = k := by omega
        subst this; exact he⟩, by omega⟩
  ·try simp only [tstS] at hc2
   have hm : l.contains d = false := by
     cases hb : l.contains d with
     | false => rfl
     | true =>
       rw [List.contains_iff_mem] at hb
       obtain ⟨i, hi, e⟩ := List.mem_iff_getElem.1 hb
       exact absurd e (hd i hi (by omega))
   refine WC.exit rfl ?_
   refine cseq <| cregion <| qq (Val.assign rfl) rfl <| cnil ?_
   refine WC.ret1 rfl rfl ?_
   exact ⟨hK, by rw [hm]⟩

theorem copyThings_ok {w : World} {v : Value} {l : List Thg} (h0 : Rd thgS w v l) (hl : l.length ≤ 1048576) :
    Calls Try.prog 46 #[v] w (Ret fun v' w' => Below w.heap.size w w' ∧ Own w' w.heap.size 62 3 v' l.length (l.flatMap encThg)) := by
  obtain ⟨c, hO, hc⟩ := OldC.start w
  have h1 : RdC thgS c w [0] v l := Rd.toC h0 (fun k hk => by simp [hc, hasC])
  clear hc h0
  refine enter (n := 19) (res := #[.tmp 2]) Try.func46 rfl rfl rfl rfl ?_
  refine cseq <| cregion <| qq (Val.assign rfl) rfl <| cnil <| cseq <| cregion <| qq (Val.assign rfl) rfl <| cnil <| cseq ?_
  refine cseq <| cregion <| qq (Val.assign rfl) rfl <| cnil <| cblock ?_
  refine WC.loop (σ := Nat × Value) (fun st => [(0, v), (3, st.2), (4, I st.1)]) (fun st w' => ∃ c', OldC w c' w' ∧ RdC thgS c' w' [0] v l ∧ OwnC c' w' 3 62 3 st.2 st.1 ((l.take st.1).flatMap encThg) ∧ st.1 ≤ l.length) (fun st => l.length - st.1) (0, .slice none 0 0) (by repeat (first | exact Sub.nil _ | refine Sub.cons rfl ?_ | refine Sub.consM rfl ?_)) ⟨_, hO, h1, OwnC.nil _ _ _ _ _, by simp⟩ ?_
  clear hO h1
  rintro ⟨k, vm⟩ wl ⟨cl, hO, h1, ho, hk⟩
  dsimp only at hO h1 ho hk ⊢
  refine cseq <| cseq <| cregion <| qq (Val.move rfl) rfl <| qq (Val.move rfl) rfl ?_
  first | refine WR.val (Val.rdlen sl52 (by assumption) rfl) rfl ?_ | refine WR.val (Val.sllen Try.underlying52 rfl) rfl ?_ | refine WR.val (Val.olen sl52 (by assumption) rfl) rfl ?_ | refine WR.val (Val.rdlenC sl52 (by assumption) rfl) rfl ?_
  refine qq (Val.lss rfl rfl) rfl <| cnil ?_
  refine WC.cond rfl (fun hc3 => ?_) (fun hc3 => ?_)
  ·try simp only [tstS] at hc3
   have ka : k < l.length := by omega
   obtain ⟨hc14, ok1⟩ := RdC.elFlat h1 ka (by decide)
   refine cskip <| cseq <| cblock <| cregion <| qq (Val.move rfl) rfl <| qq (Val.move rfl) rfl <| qq (Val.move rfl) rfl ?_
   first | refine WR.val (Val.indexAddr sl52 (by assumption) rfl rfl rfl (by first | omega | assumption | (simp; omega) | (simp; done)) (by first | omega | assumption | (simp; omega) | (simp; done))) rfl ?_ | refine WR.val (Val.indexC sl52 (by assumption) rfl rfl (by first | omega | assumption | (simp; omega) | (simp; done)) (by first | omega | assumption | (simp; omega) | (simp; done))) rfl ?_ | refine WR.val (Val.indexO sl52 (by assumption) rfl rfl (by first | omega | assumption | (simp; omega) | (simp; done)) (by first | omega | assumption | (simp; omega) | (simp; done))) rfl ?_
   refine qq (Val.loadE agg62 rfl hc14.cel rfl) rfl ?_
   refine WR.eff (Eff.build1C cl 116 sl52 rfl rfl rfl rfl rfl) rfl ?_
   rintro _ w1 ⟨b16, c1, rfl, hM1, hb16⟩
   replace hO := hO.mv hM1 rfl; replace h1 := h1.mv hM1 rfl; replace ho := ho.mv hM1 rfl; replace hc14 := hc14.mv hM1 rfl
   refine WR.eff (Eff.appendC sl52 rfl rfl ho (Src.cellsAt Try.underlying52 hb16.blk.cellsAt rfl (by repeat (first | exact List.forall_mem_nil _ | refine List.forall_mem_cons.2 ⟨by first | rfl | assumption, ?_⟩))) (by rw [maxLen_eq]; first | omega | (simp; omega)) (by first | omega | (simp; omega))) rfl ?_
   rintro v17 w2 ⟨c2, hM2, hOq⟩
   clear hb16
   replace hO := hO.mv hM2 rfl; replace h1 := h1.mv hM2 rfl; replace hc14 := hc14.mv hM2 rfl
   replace ho := hOq
   refine qq (Val.assign rfl) rfl <| cnil <| cregion <| qq (Val.move rfl) rfl <| qq (Val.addI rfl rfl (by first | omega | assumption | (simp; omega) | (simp; done)) (by first | omega | assumption | (simp; omega) | (simp; done))) rfl <| qq (Val.assign rfl) rfl <| cnil ?_
   exact ⟨(k + 1, v17), (by repeat (first | exact Sub.nil _ | refine Sub.cons rfl ?_ | refine Sub.consM rfl ?_)), ⟨_, hO, h1, by rw [take_succ_flatMap _ ka]; exact ho, ka⟩, by dsimp only; omega⟩
  ·try simp only [tstS] at hc3
   have : k = l.length := by omega
   subst this
   rw [List.take_length] at ho
   refine WC.exit rfl ?_
   refine cseq <| cregion <| qq (Val.move rfl) rfl <| qq (Val.assign rfl) rfl <| cnil ?_
   refine WC.ret1 rfl rfl ?_
   exact ⟨hO.below, ho.fromOld hO (by decide)⟩

theorem eqThings_ok {w : World} {v1 v2 : Value} {a b : List Thg} (h1 : Rd thgS w v1 a) (h2 : Rd thgS w v2 b) :
    Calls Try.prog 50 #[v1, v2] w (Ret fun v w' => Below w.heap.size w w' ∧ v = .bool (decide (a = b))) := by
  have hK : Old w w := Old.refl w
  have la := h1.lenN
  refine enter (n := 26) (res := #[.tmp 4]) Try.func50 rfl rfl rfl rfl ?_
  refine cseq <| cregion <| qq (Val.assign rfl) rfl <| cnil <| cseq <| cseq <| cregion <| qq (Val.move rfl) rfl ?_
  first | refine WR.val (Val.rdlen sl52 (by assumption) rfl) rfl ?_ | refine WR.val (Val.sllen Try.underlying52 rfl) rfl ?_
  refine qq (Val.move rfl) rfl ?_
  first | refine WR.val (Val.rdlen sl52 (by assumption) rfl) rfl ?_ | refine WR.val (Val.sllen Try.underlying52 rfl) rfl ?_
  refine qq (Val.neq rfl rfl) rfl <| cnil ?_
  refine WC.cond rfl (fun hc1 => ?_) (fun hc1 => ?_)
  ·try simp only [tstS] at hc1
   have : a ≠ b := fun e => by subst e; omega
   refine cseq <| cregion <| qq (Val.assign rfl) rfl <| cnil ?_
   refine WC.ret1 rfl rfl ?_
   exact ⟨hK, by simp [this]⟩
  ·try simp only [tstS] at hc1
   refine cskip <| cseq <| cseq <| cregion <| qq (Val.assign rfl) rfl <| cnil <| cblock ?_
   refine WC.loop (σ := Nat) (fun k => [(0, v1), (1, v2), (5, I k)]) (fun k w' => Rd thgS w' v1 a ∧ Rd thgS w' v2 b ∧ Old w w' ∧ k ≤ a.length ∧ a.take k = b.take k) (fun k => a.length - k) 0 (by repeat (first | exact Sub.nil _ | refine Sub.cons rfl ?_ | refine Sub.consM rfl ?_)) ⟨h1, h2, hK, by omega, rfl⟩ ?_
   rintro k wl ⟨h1, h2, hK, hk, he⟩
   have hln : a.length = b.length := by omega
   refine cseq <| cseq <| cregion <| qq (Val.move rfl) rfl <| qq (Val.move rfl) rfl ?_
   first | refine WR.val (Val.rdlen sl52 (by assumption) rfl) rfl ?_ | refine WR.val (Val.sllen Try.underlying52 rfl) rfl ?_
   refine qq (Val.lss rfl rfl) rfl <| cnil ?_
   refine WC.cond rfl (fun hc4 => ?_) (fun hc4 => ?_)
   ·try simp only [tstS] at hc4
    have ka : k < a.length := by omega
    have kb : k < b.length := by omega
    obtain ⟨cs1, hc19, rfl, ok1⟩ := h1.el ka
    obtain ⟨cs2, hc23, rfl, ok2⟩ := h2.el kb
    have heq : cellsEq (encThg a[k]) (encThg b[k]) = decide (a[k] = b[k]) := thg_eq _ _
    refine cskip <| cseq <| cblock <| cseq ?_
    refine WC.regionD (Below wl.heap.size wl) [0, 0, 0, 1, 0, 0, 0, 1, 0] [0, 1, 2, 3, 4, 5, 6, 7, 8] mixed (by kernel_rfl) ?_
    have hk1 : Below wl.heap.size wl wl.drew := (Below.refl _ _).drew
    have hCw : Below wl.heap.size wl wl.drew := (Below.refl _ _).drew
    generalize wl.drew = w1 at hk1 hCw ⊢
    have hc190 := hc19
    have hc230 := hc23
    replace h1 := h1.up hk1; replace h2 := h2.up hk1; replace hK := hK.up hk1; replace hc19 := hc19.up hk1; replace hc23 := hc23.up hk1
    refine qd rfl rfl rfl (fun _ => Val.move rfl) rfl <| qd rfl rfl rfl (fun _ => Val.move rfl) rfl <| qd rfl rfl rfl (fun _ => Val.indexAddr sl52 (by assumption) rfl rfl rfl (by first | omega | assumption | (simp; omega) | (simp; done)) (by first | omega | assumption | (simp; omega) | (simp; done))) rfl <| qc rfl rfl rfl hCw (fun W hW => Val.loadE agg62 rfl (hc190.up hW) rfl) rfl <| qd rfl rfl rfl (fun _ => Val.move rfl) rfl <| qd rfl rfl rfl (fun _ => Val.move rfl) rfl <| qd rfl rfl rfl (fun _ => Val.indexAddr sl52 (by assumption) rfl rfl rfl (by first | omega | assumption | (simp; omega) | (simp; done)) (by first | omega | assumption | (simp; omega) | (simp; done))) rfl <| qc rfl rfl rfl hCw (fun W hW => Val.loadE agg62 rfl (hc230.up hW) rfl) rfl <| qd rfl rfl rfl (fun _ => Val.stne flat62 rfl rfl rfl (by simp [sameKinds])) rfl ?_
    rw [heq]
    refine WD.nil ?_
    clear hc190 hc230
    clear hCw
    refine WC.cond rfl (fun hc6 => ?_) (fun hc6 => ?_)
    ·try simp only [tstS] at hc6
     replace hc6 : a[k] ≠ b[k] := by simpa using hc6
     refine cseq <| cregion <| qq (Val.assign rfl) rfl <| cnil ?_
     refine WC.ret1 rfl rfl ?_
     exact ⟨hK, by simp [take_ne ka kb hc6]⟩
    ·try simp only [tstS] at hc6
     replace hc6 : a[k] = b[k] := by simpa using hc6
     refine cskip <| cregion <| qq (Val.move rfl) rfl <| qq (Val.addI rfl rfl (by first | omega | assumption | (simp; omega) | (simp; done)) (by first | omega | assumption | (simp; omega) | (simp; done))) rfl <| qq (Val.assign rfl) rfl <| cnil ?_
     exact ⟨k + 1, (by repeat (first | exact Sub.nil _ | refine Sub.cons rfl ?_ | refine Sub.consM rfl ?_)), ⟨h1, h2, hK, ka, take_step ka kb he hc6⟩, by omega⟩
   ·try simp only [tstS] at hc4
    refine WC.exit rfl ?_
    refine cseq <| cregion <| qq (Val.assign rfl) rfl <| cnil ?_
    refine WC.ret1 rfl rfl ?_
    exact ⟨hK, by simp [take_all he (by omega) (by omega)]⟩

theorem thgsWeight_ok {w : World} {v : Value} {l : List Thg} (h1 : Rd thgS w v l) :
    Calls Try.prog 79 #[v] w (Ret fun v' w' => Below w.heap.size w w' ∧ v' = I (thgsW l : Nat)) := by
  have hK : Old w w := Old.refl w
  have hsm := h1.small
  refine enter (n := 33) (res := #[.tmp 2]) Try.func79 rfl rfl rfl rfl ?_
  refine cseq <| cregion <| qq (Val.assign rfl) rfl <| cnil <| cseq <| cregion <| qq (Val.move rfl) rfl ?_
  first | refine WR.val (Val.rdlen sl52 (by assumption) rfl) rfl ?_ | refine WR.val (Val.sllen Try.underlying52 rfl) rfl ?_
  refine qq (Val.assign rfl) rfl <| cnil <| cseq <| cseq <| cregion <| qq (Val.assign rfl) rfl <| cnil <| cblock ?_
  refine WC.loop (σ := Nat) (fun k => [(0, v), (3, I ((l.length + ((l.take k).map thgW).sum : Nat) : Int)), (4, I k)]) (fun k w' => Rd thgS w' v l ∧ Old w w' ∧ k ≤ l.length ∧ l.length + ((l.take k).map thgW).sum ≤ 9000000000000000000 ∧ thgsW l = stopSum (l.length + ((l.take k).map thgW).sum) ((l.drop k).map thgW)) (fun k => l.length - k) 0 (by simp only [List.take_zero, List.map_nil, List.sum_nil, Nat.add_zero]; repeat (first | exact Sub.nil _ | refine Sub.cons rfl ?_ | refine Sub.consM rfl ?_)) ⟨h1, hK, by omega, by simp; omega, by simp [thgsW]⟩ ?_
  rintro k wl ⟨h1, hK, hk, hn, hst⟩
  refine cseq <| cseq <| cregion <| qq (Val.move rfl) rfl <| qq (Val.move rfl) rfl ?_
  first | refine WR.val (Val.rdlen sl52 (by assumption) rfl) rfl ?_ | refine WR.val (Val.sllen Try.underlying52 rfl) rfl ?_
  refine qq (Val.lss rfl rfl) rfl <| qq (Val.move rfl) rfl ?_
  apply WR.sc true 2 _ (fun w' => wl = w')
  case hl => rfl
  case hg => rfl
  case hu => rfl
  case hv => rfl
  case hs => rfl
  case hoff => rfl
  case hd => rfl
  case hF => exact fun _ => rfl
  case hT =>
   intro hq7
   try simp only [tstS] at hq7
   simp only [List.take_succ_cons, List.take_zero]
   refine WR.on rfl rfl ?_
   refine qq (Val.move rfl) rfl ?_
   refine WR.on rfl rfl ?_
   refine qq (Val.lss rfl rfl) rfl ?_
   exact WR.nil ⟨rfl, Sub.drop _ 2 _ rfl rfl, rfl⟩
  rintro _ rfl
  refine cnil ?_
  refine WC.cond rfl (fun hc3 => ?_) (fun hc3 => ?_)
  ·try simp only [tstS] at hc3
   obtain ⟨hc3, hc3'⟩ := hc3
   have ka : k < l.length := by omega
   obtain ⟨cs1, hc20, rfl, ok1⟩ := h1.el ka
   have hc27 := hc20
   have e : thgW l[k] = l[k].digest.length + l[k].text.length := rfl
   obtain ⟨ok1, ok2⟩ := ok1
   refine cskip <| cseq <| cblock ?_
   refine WC.regionD (Below wl.heap.size wl) [0, 0, 0, 0, 0, 1, 0, 0, 0, 0, 0, 0, 1, 0, 0, 0] [0, 1, 2, 3, 4, 5, 6, 7, 8, 9, 10, 11, 12, 13, 14, 15] mixed (by kernel_rfl) ?_
   have hk1 : Below wl.heap.size wl wl.drew := (Below.refl _ _).drew
   have hCw : Below wl.heap.size wl wl.drew := (Below.refl _ _).drew
   generalize wl.drew = w1 at hk1 hCw ⊢
   have hc200 := hc20
   have hc270 := hc27
   replace h1 := h1.up hk1; replace hK := hK.up hk1; replace hc20 := hc20.up hk1; replace hc27 := hc27.up hk1
   refine qd rfl rfl rfl (fun _ => Val.move rfl) rfl <| qd rfl rfl rfl (fun _ => Val.move rfl) rfl <| qd rfl rfl rfl (fun _ => Val.move rfl) rfl <| qd rfl rfl rfl (fun _ => Val.indexAddr sl52 (by assumption) rfl rfl rfl (by first | omega | assumption | (simp; omega) | (simp; done)) (by first | omega | assumption | (simp; omega) | (simp; done))) rfl ?_
   first | refine WD.val rfl rfl rfl (fun _ => Val.fieldAddr fld62_0 rfl) rfl ?_ | refine WD.val rfl rfl rfl (fun _ => Val.fieldAddrP fld62_0 rfl) rfl ?_
   refine qc rfl rfl rfl hCw (fun W hW => Val.loadEf scl9 rfl (hc200.up hW) rfl) rfl <| qd rfl rfl rfl (fun _ => Val.slen Try.underlying9 rfl) rfl <| qd rfl rfl rfl (fun _ => Val.addI rfl rfl (by first | omega | assumption | (simp; omega) | (simp; done)) (by first | omega | assumption | (simp; omega) | (simp; done))) rfl <| qd rfl rfl rfl (fun _ => Val.move rfl) rfl <| qd rfl rfl rfl (fun _ => Val.move rfl) rfl <| qd rfl rfl rfl (fun _ => Val.indexAddr sl52 (by assumption) rfl rfl rfl (by first | omega | assumption | (simp; omega) | (simp; done)) (by first | omega | assumption | (simp; omega) | (simp; done))) rfl ?_
   first | refine WD.val rfl rfl rfl (fun _ => Val.fieldAddr fld62_1 rfl) rfl ?_ | refine WD.val rfl rfl rfl (fun _ => Val.fieldAddrP fld62_1 rfl) rfl ?_
   refine qc rfl rfl rfl hCw (fun W hW => Val.loadEf scl9 rfl (hc270.up hW) rfl) rfl <| qd rfl rfl rfl (fun _ => Val.slen Try.underlying9 rfl) rfl <| qd rfl rfl rfl (fun _ => Val.addI rfl rfl (by first | omega | assumption | (simp; omega) | (simp; done)) (by first | omega | assumption | (simp; omega) | (simp; done))) rfl <| qd rfl rfl rfl (fun _ => Val.assign rfl) rfl ?_
   refine WD.nil ?_
   clear hc200 hc270
   clear hCw
   refine cregion <| qq (Val.move rfl) rfl <| qq (Val.addI rfl rfl (by first | omega | assumption | (simp; omega) | (simp; done)) (by first | omega | assumption | (simp; omega) | (simp; done))) rfl <| qq (Val.assign rfl) rfl <| cnil ?_
   refine ⟨k + 1, ?_, ⟨h1, hK, ka, ?_, by rw [hst, stopSum_step _ ka (by omega), sum_take_succ _ ka, Nat.add_assoc]⟩, by omega⟩
   · rw [sum_take_succ _ ka, e, show ((l.length + (((l.take k).map thgW).sum + (l[k].digest.length + l[k].text.length)) : Nat) : Int) = ((l.length + ((l.take k).map thgW).sum : Nat) : Int) + (l[k].digest.length : Int) + (l[k].text.length : Int) by omega]; repeat (first | exact Sub.nil _ | refine Sub.cons rfl ?_ | refine Sub.consM rfl ?_)
   · rw [sum_take_succ _ ka]; omega
  ·try simp only [tstS] at hc3
   refine WC.exit rfl ?_
   refine cseq <| cregion <| qq (Val.move rfl) rfl <| qq (Val.assign rfl) rfl <| cnil ?_
   refine WC.ret1 rfl rfl ?_
   refine ⟨hK, ?_⟩
   rw [Bool.and_eq_false_iff] at hc3
   simp only [decide_eq_false_iff_not] at hc3
   rcases Nat.lt_or_ge k l.length with h | h
   · rw [hst, stopSum_ge (by omega)]
   · rw [hst, List.drop_of_length_le h]; rfl
end Go.Proofs.Ytnddlhjafkhdoaa

namespace Silo
open Go Go.Eng
def tW (l : List (List UInt8)) : Nat := stopSum l.length (l.map List.length)
theorem stopSum_le : ∀ (l : List Nat) (n M : Nat), (∀ x ∈ l, x ≤ M) → stopSum n l ≤ n ∨ stopSum n l ≤ 1048576 + M
  | [], n, M, _ => .inl (Nat.le_refl _)
  | x :: r, n, M, h => by
    unfold stopSum
    split
    · rename_i hn
      have hx := h x (by simp)
      rcases stopSum_le r (n + x) M (fun y hy => h y (by simp [hy])) with h1 | h1 <;> right <;> omega
    · exact .inl (Nat.le_refl _)
theorem le_sum {l : List Nat} {x : Nat} (h : x ∈ l) : x ≤ l.sum := by
  induction l with
  | nil => cases h
  | cons a r ih =>
    simp only [List.sum_cons]
    rcases List.mem_cons.1 h with rfl | h
    · omega
    · have := ih h; omega
theorem tW_small {l : List (List UInt8)} {n : Nat} (h : tW l ≤ n) (hn : n < 1048576) : l.length ≤ n ∧ ∀ x ∈ l, x.length ≤ n := by
  have e := stopSum_small (l.map List.length) l.length (by unfold tW at h; omega)
  unfold tW at h
  rw [e] at h
  refine ⟨by omega, fun x hx => ?_⟩
  have := le_sum (List.mem_map_of_mem (f := List.length) hx)
  omega
def manW (m : Man) : Nat := tW m.blobs + tW m.subs
/-- What is light enough. -/
def papersW (L : List Man) (T : List (List UInt8)) : Nat := stopSum (tW T) (L.map manW)
theorem papers_light {L : List Man} {T : List (List UInt8)} (h : papersW L T ≤ 6000) : (T.length ≤ 6000 ∧ ∀ x ∈ T, x.length ≤ 6000) ∧ ∀ m ∈ L, m.blobs.length ≤ 6000 ∧ m.subs.length ≤ 6000 := by
  unfold papersW at h
  rw [stopSum_small _ _ (by omega)] at h
  refine ⟨tW_small (n := 6000) (by omega) (by decide), fun m hm => ?_⟩
  have := le_sum (List.mem_map_of_mem (f := manW) hm)
  rw [show manW m = tW m.blobs + tW m.subs from rfl] at this
  exact ⟨(tW_small (n := 6000) (by omega) (by decide)).1, (tW_small (n := 6000) (by omega) (by decide)).1⟩
end Silo
namespace Go.Proofs.Ytnddlhjafkhdoaa
open Go Go.Eng Go.RowKit Silo TryT

theorem tW_le {w : World} {v : Value} {l : List (List UInt8)} (h : RdS strS w.heap.size w v l) : tW l ≤ 140737489403904 := by
  have h1 := h.small
  rcases stopSum_le (l.map List.length) l.length 140737488355328 (fun x hx => by obtain ⟨y, hy, rfl⟩ := List.mem_map.1 hx; exact h.okFlat y hy) with h2 | h2 <;> unfold tW <;> omega
theorem mheavy_ok {w : World} {vM vT : Value} {L : List Man} {T : List (List UInt8)} (h1 : Rd manS w vM L) (h2 : Rd strS w vT T) :
    Calls Try.prog 14 #[.agg #[vM, vT]] w (Ret fun v w' => Below w.heap.size w w' ∧ v = .bool (decide ((6000 : Int) < (papersW L T : Nat)))) := by
  have hK : Old w w := Old.refl w
  have o1 := h1.oneC
  have o2 := h2.oneC
  have hsm := h1.small
  refine enter (n := 38) (res := #[.tmp 2]) Try.func14 rfl rfl rfl rfl ?_
  refine cseq <| cregion ?_
  refine WR.eff (Eff.box rfl) rfl ?_
  rintro _ w1 ⟨b1, rfl, hn1⟩
  have hk1 := hn1.below
  replace h1 := h1.up hk1; replace h2 := h2.up hk1; replace hK := hK.up hk1
  have hb1 := hn1.blk
  refine qq (Val.assign rfl) rfl <| cnil <| cseq <| cregion ?_
  first | refine WR.val (Val.fieldAddr fld25_1 rfl) rfl ?_ | refine WR.val (Val.fieldAddrP fld25_1 rfl) rfl ?_
  refine qq (Val.loadB scl23 rfl hb1 rfl) rfl ?_
  refine WR.eff (Eff.call pf70 rfl (texts_ok h2)) rfl ?_
  rintro v7 w2 ⟨hk2, rfl⟩
  replace h1 := h1.up hk2; replace h2 := h2.up hk2; replace hK := hK.up hk2; replace hb1 := hb1.up hk2
  have ht := tW_le h2
  rw [show stopSum T.length (T.map List.length) = tW T from rfl]
  refine qq (Val.assign rfl) rfl <| cnil <| cseq <| cseq <| cregion <| qq (Val.assign rfl) rfl <| cnil <| cblock ?_
  refine WC.loop (σ := Nat) (fun k => [(1, .pointer (some ⟨b1, 0, none⟩)), (3, I ((tW T + ((L.take k).map manW).sum : Nat) : Int)), (4, I k)]) (fun k w' => Rd manS w' vM L ∧ Rd strS w' vT T ∧ Old w w' ∧ Blk w' b1 [vM, vT] 25 ∧ k ≤ L.length ∧ tW T + ((L.take k).map manW).sum ≤ 900000000000000 ∧ papersW L T = stopSum (tW T + ((L.take k).map manW).sum) ((L.drop k).map manW)) (fun k => L.length - k) 0 (by simp only [List.take_zero, List.map_nil, List.sum_nil, Nat.add_zero]; repeat (first | exact Sub.nil _ | refine Sub.cons rfl ?_ | refine Sub.consM rfl ?_)) ⟨h1, h2, hK, hb1, by omega, by simp; omega, by simp [papersW]⟩ ?_
  clear ht h1 h2 hK
  rintro k wl ⟨h1, h2, hK, hb1, hk, hn, hst⟩
  refine cseq <| cseq <| cregion <| qq (Val.move rfl) rfl ?_
  first | refine WR.val (Val.fieldAddr fld25_0 rfl) rfl ?_ | refine WR.val (Val.fieldAddrP fld25_0 rfl) rfl ?_
  refine qq (Val.loadB scl22 rfl hb1 rfl) rfl ?_
  first | refine WR.val (Val.rdlen sl22 (by assumption) rfl) rfl ?_ | refine WR.val (Val.sllen Try.underlying22 rfl) rfl ?_
  refine qq (Val.lss rfl rfl) rfl <| qq (Val.move rfl) rfl ?_
  apply WR.sc true 2 _ (fun w' => wl = w')
  case hl => rfl
  case hg => rfl
  case hu => rfl
  case hv => rfl
  case hs => rfl
  case hoff => rfl
  case hd => rfl
  case hF => exact fun _ => rfl
  case hT =>
   intro hq8
   try simp only [tstS] at hq8
   simp only [List.take_succ_cons, List.take_zero]
   refine WR.on rfl rfl ?_
   refine qq (Val.move rfl) rfl ?_
   refine WR.on rfl rfl ?_
   refine qq (Val.lss rfl rfl) rfl ?_
   exact WR.nil ⟨rfl, Sub.drop _ 2 _ rfl rfl, rfl⟩
  rintro _ rfl
  refine cnil ?_
  refine WC.cond rfl (fun hc3 => ?_) (fun hc3 => ?_)
  ·try simp only [tstS] at hc3
   obtain ⟨hc3, hc3'⟩ := hc3
   have ka : k < L.length := by omega
   obtain ⟨cs1, hc23, ⟨va, vc, rfl, ha, hc', hq⟩⟩ := h1.el ka
   replace ha : Rd strS wl va L[k].blobs := ha; replace hc' : Rd strS wl vc L[k].subs := hc'
   have hwa := tW_le ha; have hwc := tW_le hc'
   have e : manW L[k] = tW L[k].blobs + tW L[k].subs := rfl
   refine cskip <| cseq <| cblock ?_
   refine WC.regionD (Below wl.heap.size wl) [0, 0, 1, 0, 0, 0, 1, 2, 0, 0, 1, 0, 0, 0, 1, 2, 0, 0] [0, 1, 2, 3, 4, 5, 6, 9, 10, 11, 12, 13, 14, 7, 8, 15, 16, 17] mixed (by kernel_rfl) ?_
   have hk3 : Below wl.heap.size wl wl.drew := (Below.refl _ _).drew
   have hCw : Below wl.heap.size wl wl.drew := (Below.refl _ _).drew
   generalize wl.drew = w3 at hk3 hCw ⊢
   have hb10 := hb1
   have hc230 := hc23
   replace h1 := h1.up hk3; replace h2 := h2.up hk3; replace hK := hK.up hk3; replace hb1 := hb1.up hk3; replace hc23 := hc23.up hk3; replace ha := ha.up hk3; replace hc' := hc'.up hk3
   refine qd rfl rfl rfl (fun _ => Val.move rfl) rfl ?_
   first | refine WD.val rfl rfl rfl (fun _ => Val.fieldAddr fld25_0 rfl) rfl ?_ | refine WD.val rfl rfl rfl (fun _ => Val.fieldAddrP fld25_0 rfl) rfl ?_
   refine qc rfl rfl rfl hCw (fun W hW => Val.loadB scl22 rfl (hb10.up hW) rfl) rfl <| qd rfl rfl rfl (fun _ => Val.move rfl) rfl <| qd rfl rfl rfl (fun _ => Val.indexAddr sl22 (by assumption) rfl rfl rfl (by first | omega | assumption | (simp; omega) | (simp; done)) (by first | omega | assumption | (simp; omega) | (simp; done))) rfl ?_
   first | refine WD.val rfl rfl rfl (fun _ => Val.fieldAddr fld29_1 rfl) rfl ?_ | refine WD.val rfl rfl rfl (fun _ => Val.fieldAddrP fld29_1 rfl) rfl ?_
   refine qc rfl rfl rfl hCw (fun W hW => Val.loadEf scl23 rfl (hc230.up hW) rfl) rfl ?_
   first | refine WD.val rfl rfl rfl (fun _ => Val.fieldAddr fld25_0 rfl) rfl ?_ | refine WD.val rfl rfl rfl (fun _ => Val.fieldAddrP fld25_0 rfl) rfl ?_
   refine qc rfl rfl rfl hCw (fun W hW => Val.loadB scl22 rfl (hb10.up hW) rfl) rfl <| qd rfl rfl rfl (fun _ => Val.move rfl) rfl <| qd rfl rfl rfl (fun _ => Val.indexAddr sl22 (by assumption) rfl rfl rfl (by first | omega | assumption | (simp; omega) | (simp; done)) (by first | omega | assumption | (simp; omega) | (simp; done))) rfl ?_
   first | refine WD.val rfl rfl rfl (fun _ => Val.fieldAddr fld29_2 rfl) rfl ?_ | refine WD.val rfl rfl rfl (fun _ => Val.fieldAddrP fld29_2 rfl) rfl ?_
   refine qc rfl rfl rfl hCw (fun W hW => Val.loadEf scl23 rfl (hc230.up hW) rfl) rfl ?_
   refine WD.eff rfl rfl rfl (Eff.call pf70 rfl (texts_ok ha)) rfl ?_
   rintro v26 w4 ⟨hk4, rfl⟩
   refine ⟨fun hC => Below.trans hC (hk4.mono hC.size), ?_⟩
   replace hCw := Below.trans hCw (hk4.mono hCw.size)
   replace h1 := h1.up hk4; replace h2 := h2.up hk4; replace hK := hK.up hk4; replace hb1 := hb1.up hk4; replace hc23 := hc23.up hk4; replace ha := ha.up hk4; replace hc' := hc'.up hk4
   refine qd rfl rfl rfl (fun _ => Val.addI rfl rfl (by show _ ≤ ((tW T + ((L.take k).map manW).sum : Nat) : Int) + (tW L[k].blobs : Nat); omega) (by show ((tW T + ((L.take k).map manW).sum : Nat) : Int) + (tW L[k].blobs : Nat) ≤ _; omega)) rfl ?_
   refine WD.eff rfl rfl rfl (Eff.call pf70 rfl (texts_ok hc')) rfl ?_
   rintro v34 w5 ⟨hk5, rfl⟩
   refine ⟨fun hC => Below.trans hC (hk5.mono hC.size), ?_⟩
   replace hCw := Below.trans hCw (hk5.mono hCw.size)
   replace h1 := h1.up hk5; replace h2 := h2.up hk5; replace hK := hK.up hk5; replace hb1 := hb1.up hk5; replace hc23 := hc23.up hk5; replace ha := ha.up hk5; replace hc' := hc'.up hk5
   refine qd rfl rfl rfl (fun _ => Val.addI rfl rfl (by show _ ≤ ((tW T + ((L.take k).map manW).sum : Nat) : Int) + (tW L[k].blobs : Nat) + (tW L[k].subs : Nat); omega) (by show ((tW T + ((L.take k).map manW).sum : Nat) : Int) + (tW L[k].blobs : Nat) + (tW L[k].subs : Nat) ≤ _; omega)) rfl <| qd rfl rfl rfl (fun _ => Val.assign rfl) rfl ?_
   refine WD.nil ?_
   clear hb10 hc230
   clear hCw
   refine cregion <| qq (Val.move rfl) rfl <| qq (Val.addI rfl rfl (by first | omega | assumption | (simp; omega) | (simp; done)) (by first | omega | assumption | (simp; omega) | (simp; done))) rfl <| qq (Val.assign rfl) rfl <| cnil ?_
   refine ⟨k + 1, ?_, ⟨h1, h2, hK, hb1, ka, ?_, by rw [hst, stopSum_step _ ka (by omega), sum_take_succ _ ka, Nat.add_assoc]⟩, by omega⟩
   · have e2 : ((tW T + (((L.take k).map manW).sum + manW L[k]) : Nat) : Int) = ((tW T + ((L.take k).map manW).sum : Nat) : Int) + (stopSum L[k].blobs.length (L[k].blobs.map List.length) : Nat) + (stopSum L[k].subs.length (L[k].subs.map List.length) : Nat) := by
       rw [e]; unfold tW; omega
     rw [sum_take_succ _ ka, e2]
     repeat (first | exact Sub.nil _ | refine Sub.cons rfl ?_ | refine Sub.consM rfl ?_)
   · rw [sum_take_succ _ ka]; omega
  ·try simp only [tstS] at hc3
   refine WC.exit rfl ?_
   refine cseq <| cregion <| qq (Val.move rfl) rfl <| qq (Val.gtr rfl rfl) rfl <| qq (Val.assign rfl) rfl <| cnil ?_
   refine WC.ret1 rfl rfl ?_
   have e3 : papersW L T = tW T + ((L.take k).map manW).sum := by
     rw [Bool.and_eq_false_iff] at hc3
     simp only [decide_eq_false_iff_not] at hc3
     rcases Nat.lt_or_ge k L.length with h | h
     · rw [hst, stopSum_ge (by omega)]
     · rw [hst, List.drop_of_length_le h]; rfl
   exact ⟨hK, by rw [e3]⟩
end Go.Proofs.Ytnddlhjafkhdoaa
