/- Digests: a block, as the page has it. No condition. -/
import Derived.Test.YtnddlhjafkhdoaaDig2
set_option linter.unusedSimpArgs false
set_option linter.unusedVariables false
set_option maxRecDepth 100000
namespace Silo
open Go Go.Eng
def wk (s : List UInt8) (k : Nat) : List Int := (List.range k).foldl (wordS s) (List.replicate 16 0)
theorem fold_succ {α : Type} (f : α → Nat → α) (a : α) (k : Nat) : (List.range (k + 1)).foldl f a = f ((List.range k).foldl f a) k := by rw [List.range_succ, List.foldl_append]; rfl
theorem wk_succ (s : List UInt8) (k : Nat) : wk s (k + 1) = wordS s (wk s k) k := fold_succ _ _ _
theorem wk_length (s : List UInt8) : ∀ k, (wk s k).length = 16
  | 0 => rfl
  | k + 1 => by rw [wk_succ, wordS, List.length_set, wk_length s k]
theorem wk_step {s : List UInt8} {k : Nat} (hk : k < s.length) : (wk s k).set ((k : Int) / 4).toNat (o32 (gW (wk s k) ((k : Int) / 4).toNat) (w32 (((s[k].toNat : Int) % 4294967296) * 2 ^ (8 * ((k : Int) % 4)).toNat))) = wk s (k + 1) := by
  have e1 : ((k : Int) / 4).toNat = k / 4 := by omega
  have e2 : (8 * ((k : Int) % 4)).toNat = 8 * (k % 4) := by omega
  have e3 : ((s[k].toNat : Int) % 4294967296) = s[k].toNat := by have := s[k].toNat_lt; omega
  rw [wk_succ, wordS, e1, e2, e3, List.getElem?_eq_getElem hk]; rfl
def vk (h : List Int) (k : Nat) : List Int := (List.range k).foldl (fun v i => (v.set i (gW h i)).set (i + 8) (gW beginsL i)) (List.replicate 16 0)
theorem vk_succ (h : List Int) (k : Nat) : vk h (k + 1) = ((vk h k).set k (gW h k)).set (k + 8) (gW beginsL k) := fold_succ _ _ _
theorem vk_length (h : List Int) : ∀ k, (vk h k).length = 16
  | 0 => rfl
  | k + 1 => by rw [vk_succ, List.length_set, List.length_set, vk_length h k]
theorem eight {h : List Int} (hl : h.length = 8) : ∃ a b c d e f g i, h = [a, b, c, d, e, f, g, i] := by
  match h, hl with
  | [a, b, c, d, e, f, g, i], _ => exact ⟨a, b, c, d, e, f, g, i, rfl⟩
theorem vk_eight {h : List Int} (hl : h.length = 8) : vk h 8 = h ++ beginsL := by
  obtain ⟨a, b, c, d, e, f, g, i, rfl⟩ := eight hl
  rfl
def rk (m : List Int) (v : List Int) (r : Nat) : List Int := (List.range r).foldl (roundsS m) v
theorem roundsS_length (m v : List Int) (r : Nat) : (roundsS m v r).length = v.length := by
  have key : ∀ k, ((List.range k).foldl (roundS m r) v).length = v.length := by
    intro k
    induction k with
    | zero => rfl
    | succ k ih => rw [fold_succ, roundS, mixS_length, ih]
  exact key 8
theorem rk_succ (m v : List Int) (r : Nat) : rk m v (r + 1) = roundsS m (rk m v r) r := fold_succ _ _ _
theorem rk_length (m v : List Int) : ∀ r, (rk m v r).length = v.length
  | 0 => rfl
  | r + 1 => by rw [rk_succ, roundsS_length, rk_length m v r]
def hck (h v : List Int) (k : Nat) : List Int := (List.range k).foldl (fun l i => l.set i (x32 (x32 (gW l i) (gW v i)) (gW v (i + 8)))) h
theorem hck_succ (h v : List Int) (k : Nat) : hck h v (k + 1) = (hck h v k).set k (x32 (x32 (gW (hck h v k) k) (gW v k)) (gW v (k + 8))) := fold_succ _ _ _
theorem hck_length (h v : List Int) : ∀ k, (hck h v k).length = h.length
  | 0 => rfl
  | k + 1 => by rw [hck_succ, List.length_set, hck_length h v k]
theorem hck_eight {h v : List Int} (hl : h.length = 8) : hck h v 8 = (List.range 8).map fun i => x32 (x32 (gW h i) (gW v i)) (gW v (i + 8)) := by
  obtain ⟨a, b, c, d, e, f, g, i, rfl⟩ := eight hl
  rfl
theorem startV_length {h : List Int} (hl : h.length = 8) (n : Int) (last : Bool) : (startV h n last).length = 16 := by
  cases last <;> simp [startV, hl, beginsL]
theorem wordsS_length (s : List UInt8) : (wordsS s).length = 16 := wk_length s _
theorem rounds_eq (m v : List Int) (r : Nat) {a0 a1 a2 a3 a4 a5 a6 a7 a8 a9 a10 a11 a12 a13 a14 a15 : Nat} (hr : rowsL[r]? = some [a0, a1, a2, a3, a4, a5, a6, a7, a8, a9, a10, a11, a12, a13, a14, a15]) :
    roundsS m v r = mixS (mixS (mixS (mixS (mixS (mixS (mixS (mixS v 0 4 8 12 (gW m a0) (gW m a1)) 1 5 9 13 (gW m a2) (gW m a3)) 2 6 10 14 (gW m a4) (gW m a5)) 3 7 11 15 (gW m a6) (gW m a7)) 0 5 10 15 (gW m a8) (gW m a9)) 1 6 11 12 (gW m a10) (gW m a11)) 2 7 8 13 (gW m a12) (gW m a13)) 3 4 9 14 (gW m a14) (gW m a15) := by
  have : List.range 8 = [0, 1, 2, 3, 4, 5, 6, 7] := rfl
  simp only [roundsS, this, List.foldl, roundS, g2, hr, Option.getD_some]
  rfl
theorem row_form (r : Nat) (h : r < 10) : ∃ a0 a1 a2 a3 a4 a5 a6 a7 a8 a9 a10 a11 a12 a13 a14 a15 : Nat, rowsL[r]? = some [a0, a1, a2, a3, a4, a5, a6, a7, a8, a9, a10, a11, a12, a13, a14, a15] ∧ a0 < 16 ∧ a1 < 16 ∧ a2 < 16 ∧ a3 < 16 ∧ a4 < 16 ∧ a5 < 16 ∧ a6 < 16 ∧ a7 < 16 ∧ a8 < 16 ∧ a9 < 16 ∧ a10 < 16 ∧ a11 < 16 ∧ a12 < 16 ∧ a13 < 16 ∧ a14 < 16 ∧ a15 < 16 := by
  have : r = 0 ∨ r = 1 ∨ r = 2 ∨ r = 3 ∨ r = 4 ∨ r = 5 ∨ r = 6 ∨ r = 7 ∨ r = 8 ∨ r = 9 := by omega
  rcases this with rfl | rfl | rfl | rfl | rfl | rfl | rfl | rfl | rfl | rfl <;> exact ⟨_, _, _, _, _, _, _, _, _, _, _, _, _, _, _, _, rfl, by decide⟩
end Silo
namespace Go.Proofs.Ytnddlhjafkhdoaa
open Go Go.Eng Go.RowKit Silo TryT
theorem rows_part (r : Nat) (h : r < 10) (l : List Nat) (hr : rowsL[r]? = some l) : (rowsV.drop (0 + r * 16)).take 16 = l.map fun n => I ((n : Nat) : Int) := by
  have : r = 0 ∨ r = 1 ∨ r = 2 ∨ r = 3 ∨ r = 4 ∨ r = 5 ∨ r = 6 ∨ r = 7 ∨ r = 8 ∨ r = 9 := by omega
  rcases this with rfl | rfl | rfl | rfl | rfl | rfl | rfl | rfl | rfl | rfl <;> (injection hr with hr; subst hr; rfl)
theorem one_rows : ∀ v ∈ rowsV, v.oneCell' = true := fun v hv => by
  obtain ⟨l, _, hl⟩ := List.mem_flatMap.1 hv
  obtain ⟨n, _, rfl⟩ := List.mem_map.1 hl
  rfl
theorem load_row {env : Env} {w : World} {x : Operand} {ty : TypeId} {b r : Nat} {l : List Nat} {T : TypeId} (hb : Blk w b rowsV T) (hx : evO env x = some (.pointer (some ⟨b, 0 + ((r : Nat) : Int).toNat * 16, none⟩))) (h : r < 10) (hr : rowsL[r]? = some l) :
    Val Try.prog env w (.load 157 x) ty (.agg (l.map fun n => I ((n : Nat) : Int)).toArray) := by
  have h1 := Val.loadSub (ty := ty) agg157 hx hb (by rw [show rowsV.length = 160 from rfl]; omega)
  rwa [Int.toNat_natCast, rows_part r h l hr] at h1
abbrev d8 : TypeId := 137

set_option maxHeartbeats 2000000 in
theorem rblock_ok {w : World} {b : Nat} {h : List Int} (hb : Blk w b (h.map W32 ++ []) d8) (hl : h.length = 8) (s : List UInt8) (hs : s.length ≤ 64) (n : Int) (h0 : 0 ≤ n) (hn : n < 9223372036854775808) (last : Bool) :
    Calls Try.prog 116 #[.pointer (some ⟨b, 0, none⟩), St s, .int .u64 n, .bool last] w (Ret fun v w' => w.grownBy w' (some b) ∧ Blk w' b ((blockS h s n last).map W32 ++ []) d8) := by
  obtain ⟨c, hc⟩ : ∃ c : Nat → Nat, c = oneC b := ⟨_, rfl⟩
  have hbh : BlkC c w 2 b (h.map W32 ++ []) d8 := ⟨hb, by rw [hc, oneC_at]⟩
  have hA : Acc c w [2, 108, 110, 111, 113, 115] c w := Acc.refl _ _ _
  clear hb
  refine enter (n := 177) (res := #[]) Try.func116 rfl rfl rfl rfl ?_
  refine cseq <| cregion ?_
  refine WR.eff (Eff.allocC c 108 zero156) rfl ?_
  rintro _ w1 ⟨b8, c1, rfl, hM1, hb8⟩
  replace hbh := hbh.mv hM1 rfl; replace hA := hA.mv hM1 rfl
  refine cnil <| cseq <| cseq <| cregion <| qq (Val.assign rfl) rfl <| cnil <| cblock ?_
  replace hb8 : BlkC _ _ 108 b8 ((wk s 0).map W32 ++ []) dV := hb8
  refine WC.loop (σ := Nat) (fun k => [(0, .pointer (some ⟨b, 0, none⟩)), (1, St s), (2, .int .u64 n), (3, .bool last), (8, .pointer (some ⟨b8, 0, none⟩)), (9, I k)]) (fun k w' => ∃ c', BlkC c' w' 2 b (h.map W32 ++ []) d8 ∧ BlkC c' w' 108 b8 ((wk s k).map W32 ++ []) dV ∧ Acc c w [2, 108, 110, 111, 113, 115] c' w' ∧ k ≤ s.length) (fun k => s.length - k) 0 (by repeat (first | exact Sub.nil _ | refine Sub.cons rfl ?_ | refine Sub.consM rfl ?_)) ⟨_, hbh, hb8, hA, by omega⟩ ?_
  clear hbh hb8 hA
  rintro k wl ⟨cl, hbh, hb8, hA, hk⟩
  have hlw := wk_length s k
  refine cseq <| cseq <| cregion <| qq (Val.move rfl) rfl <| qq (Val.move rfl) rfl <| qq (Val.slen Try.underlying9 rfl) rfl <| qq (Val.lss rfl rfl) rfl <| cnil ?_
  refine WC.cond rfl (fun hc2 => ?_) (fun hc2 => ?_)
  ·try simp only [tstS] at hc2
   have hkl : k < s.length := by omega
   refine cskip <| cseq <| cblock ?_
   refine WC.regionD (Kp cl wl []) [0, 0, 0, 0, 0, 1, 0, 0, 0, 0, 0, 0, 0, 0, 0, 0, 3] [0, 1, 2, 3, 4, 5, 6, 7, 8, 9, 10, 11, 12, 13, 14, 15, 16] mixed (by kernel_rfl) ?_
   have hM2 := Mv.drew cl wl []
   have hCw := Mv.drew cl wl []
   generalize wl.drew = w2 at hM2 hCw ⊢
   have hbh0 := hbh
   have hb80 := hb8
   replace hbh := hbh.mv hM2 rfl; replace hA := hA.mv hM2 rfl; replace hb8 := hb8.mv hM2 rfl
   refine qd rfl rfl rfl (fun _ => Val.move rfl) rfl <| qd rfl rfl rfl (fun _ => Val.quoI rfl rfl (by first | omega | assumption | (simp; omega) | (simp; done)) (by first | omega | assumption | (simp; omega) | (simp; done)) (by first | omega | assumption | (simp; omega) | (simp; done))) rfl <| qd rfl rfl rfl (fun _ => Val.move rfl) rfl <| qd rfl rfl rfl (fun _ => Val.quoI rfl rfl (by first | omega | assumption | (simp; omega) | (simp; done)) (by first | omega | assumption | (simp; omega) | (simp; done)) (by first | omega | assumption | (simp; omega) | (simp; done))) rfl <| qd rfl rfl rfl (fun _ => Val.indexArr arr156 rfl rfl (by first | omega | assumption | (simp; omega) | (simp; done)) (by first | omega | assumption | (simp; omega) | (simp; done))) rfl <| qc rfl rfl rfl hCw.kp (fun W hW => Val.loadW scl136 rfl (hb80.kp hW rfl).blk (by first | omega | assumption | (simp; omega) | (simp; done))) rfl <| qd rfl rfl rfl (fun _ => Val.move rfl) rfl <| qd rfl rfl rfl (fun _ => Val.move rfl) rfl <| qd rfl rfl rfl (fun _ => Val.sindex Try.underlying9 rfl rfl (by omega) (List.getElem?_eq_getElem hkl)) rfl ?_
   refine qd rfl rfl rfl (fun _ => Val.convToU32 Try.underlying5 Try.underlying136 rfl) rfl <| qd rfl rfl rfl (fun _ => Val.move rfl) rfl <| qd rfl rfl rfl (fun _ => Val.remI rfl rfl (by first | omega | assumption | (simp; omega) | (simp; done)) (by first | omega | assumption | (simp; omega) | (simp; done))) rfl <| qd rfl rfl rfl (fun _ => Val.mulI rfl rfl (by first | omega | assumption | (simp; omega) | (simp; done)) (by first | omega | assumption | (simp; omega) | (simp; done))) rfl <| qd rfl rfl rfl (fun _ => Val.shl_u32 rfl rfl (by first | omega | assumption | (simp; omega) | (simp; done)) (by first | omega | assumption | (simp; omega) | (simp; done))) rfl <| qd rfl rfl rfl (fun _ => Val.or_u32 rfl rfl) rfl <| qd rfl rfl rfl (fun _ => Val.indexArr arr156 rfl rfl (by first | omega | assumption | (simp; omega) | (simp; done)) (by first | omega | assumption | (simp; omega) | (simp; done))) rfl ?_
   refine WD.wild rfl rfl rfl (Eff.storeW scl136 rfl rfl hb8 (by first | omega | assumption | (simp; omega) | (simp; done))) ?_
   rintro _ w3 ⟨hS, hM3⟩
   replace hbh := hbh.mv hM3 rfl; replace hA := hA.mv hM3 rfl
   replace hb8 := hS
   refine WD.nil ?_
   clear hbh0 hb80
   clear hCw
   refine cregion <| qq (Val.move rfl) rfl <| qq (Val.addI rfl rfl (by first | omega | assumption | (simp; omega) | (simp; done)) (by first | omega | assumption | (simp; omega) | (simp; done))) rfl <| qq (Val.assign rfl) rfl <| cnil ?_
   rw [wk_step hkl] at hb8
   exact ⟨k + 1, (by repeat (first | exact Sub.nil _ | refine Sub.cons rfl ?_ | refine Sub.consM rfl ?_)), ⟨_, hbh, hb8, hA, hkl⟩, by omega⟩
  ·try simp only [tstS] at hc2
   have : k = s.length := by omega
   subst this
   refine WC.exit rfl ?_
   refine cseq <| cregion ?_
   refine WR.eff (Eff.allocC cl 110 zero156) rfl ?_
   rintro _ w4 ⟨b10, c4, rfl, hM4, hb10⟩
   replace hbh := hbh.mv hM4 rfl; replace hA := hA.mv hM4 rfl; replace hb8 := hb8.mv hM4 rfl
   refine cnil <| cseq <| cregion ?_
   refine WR.eff (Eff.pureC c4 1 (Eff.call pf115 rfl (rbegins_ok))) rfl ?_
   rintro v39 w5 ⟨c5, hM5, hx5, rfl⟩
   replace hbh := hbh.mv hM5 rfl; replace hA := hA.mv hM5 rfl; replace hb8 := hb8.mv hM5 rfl; replace hb10 := hb10.mv hM5 rfl
   refine WR.eff (Eff.allocC c5 111 zero137) rfl ?_
   rintro _ w6 ⟨b11, c6, rfl, hM6, hb11⟩
   replace hbh := hbh.mv hM6 rfl; replace hA := hA.mv hM6 rfl; replace hb8 := hb8.mv hM6 rfl; replace hb10 := hb10.mv hM6 rfl
   refine WR.eff_ (Eff.storeNC agg137 rfl rfl hb11 rfl rfl (by repeat (first | exact List.forall_mem_nil _ | refine List.forall_mem_cons.2 ⟨by first | rfl | assumption, ?_⟩))) ?_
   rintro _ w7 ⟨hS, hM7⟩
   replace hbh := hbh.mv hM7 rfl; replace hA := hA.mv hM7 rfl; replace hb8 := hb8.mv hM7 rfl; replace hb10 := hb10.mv hM7 rfl
   replace hb11 := hS
   refine cnil ?_
   replace hb11 := BlkC.words (l := beginsL) hb11
   refine cseq <| cseq <| cregion <| qq (Val.assign rfl) rfl <| cnil <| cblock ?_
   replace hb10 : BlkC _ _ 110 b10 ((vk h 0).map W32 ++ []) dV := hb10
   refine WC.loop (σ := Nat) (fun k => [(0, .pointer (some ⟨b, 0, none⟩)), (1, St s), (2, .int .u64 n), (3, .bool last), (8, .pointer (some ⟨b8, 0, none⟩)), (10, .pointer (some ⟨b10, 0, none⟩)), (11, .pointer (some ⟨b11, 0, none⟩)), (12, I k)]) (fun k w' => ∃ c', BlkC c' w' 2 b (h.map W32 ++ []) d8 ∧ BlkC c' w' 108 b8 ((wordsS s).map W32 ++ []) dV ∧ BlkC c' w' 110 b10 ((vk h k).map W32 ++ []) dV ∧ BlkC c' w' 111 b11 (beginsL.map W32 ++ []) d8 ∧ Acc c w [2, 108, 110, 111, 113, 115] c' w' ∧ k ≤ 8) (fun k => 8 - k) 0 (by repeat (first | exact Sub.nil _ | refine Sub.cons rfl ?_ | refine Sub.consM rfl ?_)) ⟨_, hbh, hb8, hb10, hb11, hA, by omega⟩ ?_
   clear hbh hb8 hb10 hb11 hA
   rintro k wm ⟨cm, hbh, hb8, hb10, hb11, hA, hk⟩
   have hlv := vk_length h k
   have hlb : beginsL.length = 8 := rfl
   refine cseq <| cseq <| cregion <| qq (Val.move rfl) rfl <| qq (Val.lss rfl rfl) rfl <| cnil ?_
   refine WC.cond rfl (fun hc8 => ?_) (fun hc8 => ?_)
   ·try simp only [tstS] at hc8
    have hk8 : k < 8 := by omega
    refine cskip <| cseq <| cblock ?_
    refine WC.regionD (Kp cm wm [110]) [0, 0, 0, 0, 0, 0, 0, 1, 0, 0, 1, 0, 2, 0, 2] [0, 1, 2, 3, 4, 5, 6, 7, 8, 9, 10, 11, 12, 13, 14] mixed (by kernel_rfl) ?_
    have hM8 := Mv.drew cm wm []
    have hCw := Mv.drew cm wm [110]
    generalize wm.drew = w8 at hM8 hCw ⊢
    have hbh0 := hbh
    have hb80 := hb8
    have hb100 := hb10
    have hb110 := hb11
    replace hbh := hbh.mv hM8 rfl; replace hA := hA.mv hM8 rfl; replace hb8 := hb8.mv hM8 rfl; replace hb10 := hb10.mv hM8 rfl; replace hb11 := hb11.mv hM8 rfl
    refine qd rfl rfl rfl (fun _ => Val.move rfl) rfl <| qd rfl rfl rfl (fun _ => Val.move rfl) rfl <| qd rfl rfl rfl (fun _ => Val.addI rfl rfl (by first | omega | assumption | (simp; omega) | (simp; done)) (by first | omega | assumption | (simp; omega) | (simp; done))) rfl <| qd rfl rfl rfl (fun _ => Val.move rfl) rfl <| qd rfl rfl rfl (fun _ => Val.move rfl) rfl <| qd rfl rfl rfl (fun _ => Val.nilCheck rfl) rfl <| qd rfl rfl rfl (fun _ => Val.indexArr arr137 rfl rfl (by first | omega | assumption | (simp; omega) | (simp; done)) (by first | omega | assumption | (simp; omega) | (simp; done))) rfl <| qc rfl rfl rfl hCw.kp (fun W hW => Val.loadW scl136 rfl (hbh0.kp hW rfl).blk (by first | omega | assumption | (simp; omega) | (simp; done))) rfl <| qd rfl rfl rfl (fun _ => Val.move rfl) rfl ?_
    refine qd rfl rfl rfl (fun _ => Val.indexArr arr137 rfl rfl (by first | omega | assumption | (simp; omega) | (simp; done)) (by first | omega | assumption | (simp; omega) | (simp; done))) rfl <| qc rfl rfl rfl hCw.kp (fun W hW => Val.loadW scl136 rfl (hb110.kp hW rfl).blk (by first | omega | assumption | (simp; omega) | (simp; done))) rfl <| qd rfl rfl rfl (fun _ => Val.indexArr arr156 rfl rfl (by first | omega | assumption | (simp; omega) | (simp; done)) (by first | omega | assumption | (simp; omega) | (simp; done))) rfl ?_
    refine WD.eff_ rfl rfl rfl (Eff.storeW scl136 rfl rfl hb10 (by first | omega | assumption | (simp; omega) | (simp; done))) ?_
    rintro _ w9 ⟨hS, hM9⟩
    refine ⟨fun hC => hC.step hCw hM9 rfl, ?_⟩
    replace hCw := hCw.tr hM9 rfl
    replace hbh := hbh.mv hM9 rfl; replace hA := hA.mv hM9 rfl; replace hb8 := hb8.mv hM9 rfl; replace hb11 := hb11.mv hM9 rfl
    replace hb10 := hS
    refine qd rfl rfl rfl (fun _ => Val.indexArr arr156 rfl rfl (by first | omega | assumption | (simp; omega) | (simp; done)) (by first | omega | assumption | (simp; omega) | (simp; done))) rfl ?_
    refine WD.eff_ rfl rfl rfl (Eff.storeW scl136 rfl rfl hb10 (by first | omega | assumption | (simp; omega) | (simp; done))) ?_
    rintro _ w10 ⟨hS, hM10⟩
    refine ⟨fun hC => hC.step hCw hM10 rfl, ?_⟩
    replace hCw := hCw.tr hM10 rfl
    replace hbh := hbh.mv hM10 rfl; replace hA := hA.mv hM10 rfl; replace hb8 := hb8.mv hM10 rfl; replace hb11 := hb11.mv hM10 rfl
    replace hb10 := hS
    refine WD.nil ?_
    clear hbh0 hb80 hb100 hb110
    clear hCw
    refine cregion <| qq (Val.move rfl) rfl <| qq (Val.addI rfl rfl (by first | omega | assumption | (simp; omega) | (simp; done)) (by first | omega | assumption | (simp; omega) | (simp; done))) rfl <| qq (Val.assign rfl) rfl <| cnil ?_
    simp only [Int.toNat_natCast, show ((k : Int) + 8).toNat = k + 8 by omega] at hb10
    rw [← vk_succ] at hb10
    exact ⟨k + 1, (by repeat (first | exact Sub.nil _ | refine Sub.cons rfl ?_ | refine Sub.consM rfl ?_)), ⟨_, hbh, hb8, hb10, hb11, hA, by omega⟩, by omega⟩
   ·try simp only [tstS] at hc8
    have : k = 8 := by omega
    subst this
    rw [vk_eight hl] at hb10
    have hlv : (h ++ beginsL).length = 16 := by rw [List.length_append, hl]; rfl
    refine WC.exit rfl ?_
    refine cseq <| cregion <| qq (Val.indexArr arr156 rfl rfl (by first | omega | assumption | (simp; omega) | (simp; done)) (by first | omega | assumption | (simp; omega) | (simp; done))) rfl <| qq (Val.loadW scl136 rfl hb10.blk (by first | omega | assumption | (simp; omega) | (simp; done))) rfl <| qq (Val.move rfl) rfl <| qq (Val.convToU32 Try.underlying141 Try.underlying136 rfl) rfl <| qq (Val.xor_u32 rfl rfl) rfl <| qq (Val.indexArr arr156 rfl rfl (by first | omega | assumption | (simp; omega) | (simp; done)) (by first | omega | assumption | (simp; omega) | (simp; done))) rfl ?_
    refine WR.eff_ (Eff.storeW scl136 rfl rfl hb10 (by first | omega | assumption | (simp; omega) | (simp; done))) ?_
    rintro _ w11 ⟨hS, hM11⟩
    replace hbh := hbh.mv hM11 rfl; replace hA := hA.mv hM11 rfl; replace hb8 := hb8.mv hM11 rfl; replace hb11 := hb11.mv hM11 rfl
    replace hb10 := hS
    refine cnil <| cseq <| cregion <| qq (Val.indexArr arr156 rfl rfl (by first | omega | assumption | (simp; omega) | (simp; done)) (by first | omega | assumption | (simp; omega) | (simp; done))) rfl <| qq (Val.loadW scl136 rfl hb10.blk (by first | omega | assumption | (simp; omega) | (simp; done))) rfl <| qq (Val.move rfl) rfl <| qq (Val.shr rfl rfl (by first | omega | assumption | (simp; omega) | (simp; done)) (by simp [IntKind.bits] <;> omega)) rfl <| qq (Val.convToU32 Try.underlying141 Try.underlying136 rfl) rfl <| qq (Val.xor_u32 rfl rfl) rfl ?_
    refine qq (Val.indexArr arr156 rfl rfl (by first | omega | assumption | (simp; omega) | (simp; done)) (by first | omega | assumption | (simp; omega) | (simp; done))) rfl ?_
    refine WR.eff_ (Eff.storeW scl136 rfl rfl hb10 (by first | omega | assumption | (simp; omega) | (simp; done))) ?_
    rintro _ w12 ⟨hS, hM12⟩
    replace hbh := hbh.mv hM12 rfl; replace hA := hA.mv hM12 rfl; replace hb8 := hb8.mv hM12 rfl; replace hb11 := hb11.mv hM12 rfl
    replace hb10 := hS
    refine cnil ?_
    rw [show (2 : Int) ^ (32 : Int).toNat = 4294967296 by decide] at hb10
    refine cseq <| cseq <| cregion <| qq (Val.move rfl) rfl <| cnil ?_
    refine WC.mono (N := fun e w' => ∃ c', Sub [(4000000, .tuple #[]), (0, .pointer (some ⟨b, 0, none⟩)), (8, .pointer (some ⟨b8, 0, none⟩)), (10, .pointer (some ⟨b10, 0, none⟩))] e ∧ BlkC c' w' 2 b (h.map W32 ++ []) d8 ∧ BlkC c' w' 108 b8 ((wordsS s).map W32 ++ []) dV ∧ BlkC c' w' 110 b10 ((startV h n last).map W32 ++ []) dV ∧ Acc c w [2, 108, 110, 111, 113, 115] c' w') ?_ ?_
    ·refine WC.cond rfl (fun hc13 => ?_) (fun hc13 => ?_)
     ·try simp only [tstS] at hc13
      refine cregion <| qq (Val.indexArr arr156 rfl rfl (by first | omega | assumption | (simp; omega) | (simp; done)) (by first | omega | assumption | (simp; omega) | (simp; done))) rfl <| qq (Val.loadW scl136 rfl hb10.blk (by first | omega | assumption | (simp; omega) | (simp; done))) rfl <| qq (Val.un_xor rfl) rfl <| qq (Val.indexArr arr156 rfl rfl (by first | omega | assumption | (simp; omega) | (simp; done)) (by first | omega | assumption | (simp; omega) | (simp; done))) rfl ?_
      refine WR.eff_ (Eff.storeW scl136 rfl rfl hb10 (by first | omega | assumption | (simp; omega) | (simp; done))) ?_
      rintro _ w13 ⟨hS, hM13⟩
      replace hbh := hbh.mv hM13 rfl; replace hA := hA.mv hM13 rfl; replace hb8 := hb8.mv hM13 rfl; replace hb11 := hb11.mv hM13 rfl
      replace hb10 := hS
      refine cnil ?_
      exact ⟨_, (by repeat (first | exact Sub.nil _ | refine Sub.cons rfl ?_ | refine Sub.consM rfl ?_)), hbh, hb8, by rw [startV, hc13]; exact hb10, hA⟩
     ·try simp only [tstS] at hc13
      refine cskip ?_
      exact ⟨_, (by repeat (first | exact Sub.nil _ | refine Sub.cons rfl ?_ | refine Sub.consM rfl ?_)), hbh, hb8, by rw [startV, hc13]; exact hb10, hA⟩
    ·skip
     rintro e9 w9 ⟨c9, hsub, hbh, hb8, hb10, hA⟩
     refine WC.sub hsub ?_
     clear hsub e9
     have hlw : (wordsS s).length = 16 := wordsS_length s
     refine cseq <| cregion ?_
     refine WR.eff (Eff.pureC c9 1 (Eff.call pf134 rfl (rows_ok))) rfl ?_
     rintro v75 w14 ⟨c14, hM14, hx14, rfl⟩
     replace hbh := hbh.mv hM14 rfl; replace hb8 := hb8.mv hM14 rfl; replace hb10 := hb10.mv hM14 rfl; replace hA := hA.mv hM14 rfl
     refine WR.eff (Eff.allocC c14 113 zero158) rfl ?_
     rintro _ w15 ⟨b13, c15, rfl, hM15, hb13⟩
     replace hbh := hbh.mv hM15 rfl; replace hb8 := hb8.mv hM15 rfl; replace hb10 := hb10.mv hM15 rfl; replace hA := hA.mv hM15 rfl
     refine WR.eff_ (Eff.storeNC agg158 rfl rfl hb13 rfl rfl one_rows) ?_
     rintro _ wA ⟨hS, hMA⟩
     replace hbh := hbh.mv hMA rfl; replace hb8 := hb8.mv hMA rfl; replace hb10 := hb10.mv hMA rfl; replace hA := hA.mv hMA rfl; replace hb13 := hS
     refine cnil <| cseq <| cseq <| cregion <| qq (Val.assign rfl) rfl <| cnil <| cblock ?_
     refine WC.loop (σ := Nat) (fun r => [(0, .pointer (some ⟨b, 0, none⟩)), (8, .pointer (some ⟨b8, 0, none⟩)), (10, .pointer (some ⟨b10, 0, none⟩)), (13, .pointer (some ⟨b13, 0, none⟩)), (14, I r)]) (fun r w' => ∃ c', BlkC c' w' 2 b (h.map W32 ++ []) d8 ∧ BlkC c' w' 108 b8 ((wordsS s).map W32 ++ []) dV ∧ BlkC c' w' 110 b10 ((rk (wordsS s) (startV h n last) r).map W32 ++ []) dV ∧ BlkC c' w' 113 b13 rowsV 158 ∧ Acc c w [2, 108, 110, 111, 113, 115] c' w' ∧ r ≤ 10) (fun r => 10 - r) 0 (by repeat (first | exact Sub.nil _ | refine Sub.cons rfl ?_ | refine Sub.consM rfl ?_)) ⟨_, hbh, hb8, hb10, hb13, hA, by omega⟩ ?_
     clear hbh hb8 hb10 hb13 hA
     rintro r wr ⟨cr, hbh, hb8, hb10, hb13, hA, hr⟩
     have hlr : (rk (wordsS s) (startV h n last) r).length = 16 := by rw [rk_length, startV_length hl]
     refine cseq <| cseq <| cregion <| qq (Val.move rfl) rfl <| qq (Val.lss rfl rfl) rfl <| cnil ?_
     refine WC.cond rfl (fun hc17 => ?_) (fun hc17 => ?_)
     ·try simp only [tstS] at hc17
      have hr10 : r < 10 := by omega
      generalize e0 : rk (wordsS s) (startV h n last) r = V0 at hb10 hlr
      obtain ⟨a0, a1, a2, a3, a4, a5, a6, a7, a8, a9, a10, a11, a12, a13, a14, a15, hrow, q0, q1, q2, q3, q4, q5, q6, q7, q8, q9, q10, q11, q12, q13, q14, q15⟩ := row_form r hr10
      refine cskip <| cseq <| cblock <| cseq <| cregion <| qq (Val.move rfl) rfl <| qq (Val.indexArr arr158 rfl rfl (by first | omega | assumption | (simp; omega) | (simp; done)) (by first | omega | assumption | (simp; omega) | (simp; done))) rfl ?_
      refine WR.val (load_row hb13.blk rfl hr10 hrow) rfl ?_
      refine WR.eff (Eff.allocC cr 115 zero157) rfl ?_
      rintro _ w16 ⟨b15, c16, rfl, hM16, hb15⟩
      replace hbh := hbh.mv hM16 rfl; replace hb8 := hb8.mv hM16 rfl; replace hb10 := hb10.mv hM16 rfl; replace hA := hA.mv hM16 rfl; replace hb13 := hb13.mv hM16 rfl
      refine WR.eff_ (Eff.storeNC agg157 rfl rfl hb15 rfl rfl (by repeat (first | exact List.forall_mem_nil _ | refine List.forall_mem_cons.2 ⟨by first | rfl | assumption, ?_⟩))) ?_
      rintro _ w17 ⟨hS, hM17⟩
      replace hbh := hbh.mv hM17 rfl; replace hb8 := hb8.mv hM17 rfl; replace hb10 := hb10.mv hM17 rfl; replace hA := hA.mv hM17 rfl; replace hb13 := hb13.mv hM17 rfl
      replace hb15 := hS
      refine cnil <| cseq ?_
      refine WC.regionD (Kp c16 w17 [110]) [0, 1, 0, 1, 0, 1, 0, 1, 2] [0, 1, 2, 3, 4, 5, 6, 7, 8] mixed (by kernel_rfl) ?_
      have hM18 := Mv.drew c16 w17 []
      have hCw := Mv.drew c16 w17 [110]
      generalize w17.drew = w18 at hM18 hCw ⊢
      have hbh0 := hbh
      have hb80 := hb8
      have hb100 := hb10
      have hb130 := hb13
      have hb150 := hb15
      replace hbh := hbh.mv hM18 rfl; replace hb8 := hb8.mv hM18 rfl; replace hb10 := hb10.mv hM18 rfl; replace hA := hA.mv hM18 rfl; replace hb13 := hb13.mv hM18 rfl; replace hb15 := hb15.mv hM18 rfl
      refine qd rfl rfl rfl (fun _ => Val.indexArr arr157 rfl rfl (by first | omega | assumption | (simp; omega) | (simp; done)) (by first | omega | assumption | (simp; omega) | (simp; done))) rfl <| qc rfl rfl rfl hCw.kp (fun W hW => Val.loadB scl3 rfl (hb150.kp hW rfl).blk rfl) rfl <| qd rfl rfl rfl (fun _ => Val.indexArr arr156 rfl rfl (by first | omega | assumption | (simp; omega) | (simp; done)) (by first | omega | assumption | (simp; omega) | (simp; done))) rfl <| qc rfl rfl rfl hCw.kp (fun W hW => Val.loadW scl136 rfl (hb80.kp hW rfl).blk (by first | omega | assumption | (simp; omega) | (simp; done))) rfl <| qd rfl rfl rfl (fun _ => Val.indexArr arr157 rfl rfl (by first | omega | assumption | (simp; omega) | (simp; done)) (by first | omega | assumption | (simp; omega) | (simp; done))) rfl <| qc rfl rfl rfl hCw.kp (fun W hW => Val.loadB scl3 rfl (hb150.kp hW rfl).blk rfl) rfl <| qd rfl rfl rfl (fun _ => Val.indexArr arr156 rfl rfl (by first | omega | assumption | (simp; omega) | (simp; done)) (by first | omega | assumption | (simp; omega) | (simp; done))) rfl <| qc rfl rfl rfl hCw.kp (fun W hW => Val.loadW scl136 rfl (hb80.kp hW rfl).blk (by first | omega | assumption | (simp; omega) | (simp; done))) rfl ?_
      refine WD.eff rfl rfl rfl (Eff.turnC hb10 (Eff.call pf135 rfl (rmix_ok hb10.blk hlr 0 4 8 12 (by decide) (by decide) (by decide) (by decide) _ _))) rfl ?_
      rintro v91 w19 ⟨c19, hM19, hb10⟩
      refine ⟨fun hC => hC.step hCw hM19 rfl, ?_⟩
      replace hCw := hCw.tr hM19 rfl
      replace hbh := hbh.mv hM19 rfl; replace hb8 := hb8.mv hM19 rfl; replace hA := hA.mv hM19 rfl; replace hb13 := hb13.mv hM19 rfl; replace hb15 := hb15.mv hM19 rfl
      simp only [Int.toNat_natCast] at hb10
      have hlr1 := mixS_length V0 0 4 8 12 (gW (wordsS s) a0) (gW (wordsS s) a1)
      rw [hlr] at hlr1
      generalize e1 : mixS V0 0 4 8 12 _ _ = V1 at hb10 hlr1
      replace hlr := hlr1
      refine WD.nil ?_
      clear hbh0 hb80 hb100 hb130 hb150
      clear hCw
      refine cseq ?_
      refine WC.regionD (Kp c19 w19 [110]) [0, 1, 0, 1, 0, 1, 0, 1, 2] [0, 1, 2, 3, 4, 5, 6, 7, 8] mixed (by kernel_rfl) ?_
      have hM20 := Mv.drew c19 w19 []
      have hCw := Mv.drew c19 w19 [110]
      generalize w19.drew = w20 at hM20 hCw ⊢
      have hbh0 := hbh
      have hb80 := hb8
      have hb100 := hb10
      have hb130 := hb13
      have hb150 := hb15
      replace hbh := hbh.mv hM20 rfl; replace hb8 := hb8.mv hM20 rfl; replace hb10 := hb10.mv hM20 rfl; replace hA := hA.mv hM20 rfl; replace hb13 := hb13.mv hM20 rfl; replace hb15 := hb15.mv hM20 rfl
      refine qd rfl rfl rfl (fun _ => Val.indexArr arr157 rfl rfl (by first | omega | assumption | (simp; omega) | (simp; done)) (by first | omega | assumption | (simp; omega) | (simp; done))) rfl <| qc rfl rfl rfl hCw.kp (fun W hW => Val.loadB scl3 rfl (hb150.kp hW rfl).blk rfl) rfl <| qd rfl rfl rfl (fun _ => Val.indexArr arr156 rfl rfl (by first | omega | assumption | (simp; omega) | (simp; done)) (by first | omega | assumption | (simp; omega) | (simp; done))) rfl <| qc rfl rfl rfl hCw.kp (fun W hW => Val.loadW scl136 rfl (hb80.kp hW rfl).blk (by first | omega | assumption | (simp; omega) | (simp; done))) rfl <| qd rfl rfl rfl (fun _ => Val.indexArr arr157 rfl rfl (by first | omega | assumption | (simp; omega) | (simp; done)) (by first | omega | assumption | (simp; omega) | (simp; done))) rfl <| qc rfl rfl rfl hCw.kp (fun W hW => Val.loadB scl3 rfl (hb150.kp hW rfl).blk rfl) rfl <| qd rfl rfl rfl (fun _ => Val.indexArr arr156 rfl rfl (by first | omega | assumption | (simp; omega) | (simp; done)) (by first | omega | assumption | (simp; omega) | (simp; done))) rfl <| qc rfl rfl rfl hCw.kp (fun W hW => Val.loadW scl136 rfl (hb80.kp hW rfl).blk (by first | omega | assumption | (simp; omega) | (simp; done))) rfl ?_
      refine WD.eff rfl rfl rfl (Eff.turnC hb10 (Eff.call pf135 rfl (rmix_ok hb10.blk hlr 1 5 9 13 (by decide) (by decide) (by decide) (by decide) _ _))) rfl ?_
      rintro v100 w21 ⟨c21, hM21, hb10⟩
      refine ⟨fun hC => hC.step hCw hM21 rfl, ?_⟩
      replace hCw := hCw.tr hM21 rfl
      replace hbh := hbh.mv hM21 rfl; replace hb8 := hb8.mv hM21 rfl; replace hA := hA.mv hM21 rfl; replace hb13 := hb13.mv hM21 rfl; replace hb15 := hb15.mv hM21 rfl
      simp only [Int.toNat_natCast] at hb10
      have hlr2 := mixS_length V1 1 5 9 13 (gW (wordsS s) a2) (gW (wordsS s) a3)
      rw [hlr] at hlr2
      generalize e2 : mixS V1 1 5 9 13 _ _ = V2 at hb10 hlr2
      replace hlr := hlr2
      refine WD.nil ?_
      clear hbh0 hb80 hb100 hb130 hb150
      clear hCw
      refine cseq ?_
      refine WC.regionD (Kp c21 w21 [110]) [0, 1, 0, 1, 0, 1, 0, 1, 2] [0, 1, 2, 3, 4, 5, 6, 7, 8] mixed (by kernel_rfl) ?_
      have hM22 := Mv.drew c21 w21 []
      have hCw := Mv.drew c21 w21 [110]
      generalize w21.drew = w22 at hM22 hCw ⊢
      have hbh0 := hbh
      have hb80 := hb8
      have hb100 := hb10
      have hb130 := hb13
      have hb150 := hb15
      replace hbh := hbh.mv hM22 rfl; replace hb8 := hb8.mv hM22 rfl; replace hb10 := hb10.mv hM22 rfl; replace hA := hA.mv hM22 rfl; replace hb13 := hb13.mv hM22 rfl; replace hb15 := hb15.mv hM22 rfl
      refine qd rfl rfl rfl (fun _ => Val.indexArr arr157 rfl rfl (by first | omega | assumption | (simp; omega) | (simp; done)) (by first | omega | assumption | (simp; omega) | (simp; done))) rfl <| qc rfl rfl rfl hCw.kp (fun W hW => Val.loadB scl3 rfl (hb150.kp hW rfl).blk rfl) rfl <| qd rfl rfl rfl (fun _ => Val.indexArr arr156 rfl rfl (by first | omega | assumption | (simp; omega) | (simp; done)) (by first | omega | assumption | (simp; omega) | (simp; done))) rfl <| qc rfl rfl rfl hCw.kp (fun W hW => Val.loadW scl136 rfl (hb80.kp hW rfl).blk (by first | omega | assumption | (simp; omega) | (simp; done))) rfl <| qd rfl rfl rfl (fun _ => Val.indexArr arr157 rfl rfl (by first | omega | assumption | (simp; omega) | (simp; done)) (by first | omega | assumption | (simp; omega) | (simp; done))) rfl <| qc rfl rfl rfl hCw.kp (fun W hW => Val.loadB scl3 rfl (hb150.kp hW rfl).blk rfl) rfl <| qd rfl rfl rfl (fun _ => Val.indexArr arr156 rfl rfl (by first | omega | assumption | (simp; omega) | (simp; done)) (by first | omega | assumption | (simp; omega) | (simp; done))) rfl <| qc rfl rfl rfl hCw.kp (fun W hW => Val.loadW scl136 rfl (hb80.kp hW rfl).blk (by first | omega | assumption | (simp; omega) | (simp; done))) rfl ?_
      refine WD.eff rfl rfl rfl (Eff.turnC hb10 (Eff.call pf135 rfl (rmix_ok hb10.blk hlr 2 6 10 14 (by decide) (by decide) (by decide) (by decide) _ _))) rfl ?_
      rintro v109 w23 ⟨c23, hM23, hb10⟩
      refine ⟨fun hC => hC.step hCw hM23 rfl, ?_⟩
      replace hCw := hCw.tr hM23 rfl
      replace hbh := hbh.mv hM23 rfl; replace hb8 := hb8.mv hM23 rfl; replace hA := hA.mv hM23 rfl; replace hb13 := hb13.mv hM23 rfl; replace hb15 := hb15.mv hM23 rfl
      simp only [Int.toNat_natCast] at hb10
      have hlr3 := mixS_length V2 2 6 10 14 (gW (wordsS s) a4) (gW (wordsS s) a5)
      rw [hlr] at hlr3
      generalize e3 : mixS V2 2 6 10 14 _ _ = V3 at hb10 hlr3
      replace hlr := hlr3
      refine WD.nil ?_
      clear hbh0 hb80 hb100 hb130 hb150
      clear hCw
      refine cseq ?_
      refine WC.regionD (Kp c23 w23 [110]) [0, 1, 0, 1, 0, 1, 0, 1, 2] [0, 1, 2, 3, 4, 5, 6, 7, 8] mixed (by kernel_rfl) ?_
      have hM24 := Mv.drew c23 w23 []
      have hCw := Mv.drew c23 w23 [110]
      generalize w23.drew = w24 at hM24 hCw ⊢
      have hbh0 := hbh
      have hb80 := hb8
      have hb100 := hb10
      have hb130 := hb13
      have hb150 := hb15
      replace hbh := hbh.mv hM24 rfl; replace hb8 := hb8.mv hM24 rfl; replace hb10 := hb10.mv hM24 rfl; replace hA := hA.mv hM24 rfl; replace hb13 := hb13.mv hM24 rfl; replace hb15 := hb15.mv hM24 rfl
      refine qd rfl rfl rfl (fun _ => Val.indexArr arr157 rfl rfl (by first | omega | assumption | (simp; omega) | (simp; done)) (by first | omega | assumption | (simp; omega) | (simp; done))) rfl <| qc rfl rfl rfl hCw.kp (fun W hW => Val.loadB scl3 rfl (hb150.kp hW rfl).blk rfl) rfl <| qd rfl rfl rfl (fun _ => Val.indexArr arr156 rfl rfl (by first | omega | assumption | (simp; omega) | (simp; done)) (by first | omega | assumption | (simp; omega) | (simp; done))) rfl <| qc rfl rfl rfl hCw.kp (fun W hW => Val.loadW scl136 rfl (hb80.kp hW rfl).blk (by first | omega | assumption | (simp; omega) | (simp; done))) rfl <| qd rfl rfl rfl (fun _ => Val.indexArr arr157 rfl rfl (by first | omega | assumption | (simp; omega) | (simp; done)) (by first | omega | assumption | (simp; omega) | (simp; done))) rfl <| qc rfl rfl rfl hCw.kp (fun W hW => Val.loadB scl3 rfl (hb150.kp hW rfl).blk rfl) rfl <| qd rfl rfl rfl (fun _ => Val.indexArr arr156 rfl rfl (by first | omega | assumption | (simp; omega) | (simp; done)) (by first | omega | assumption | (simp; omega) | (simp; done))) rfl <| qc rfl rfl rfl hCw.kp (fun W hW => Val.loadW scl136 rfl (hb80.kp hW rfl).blk (by first | omega | assumption | (simp; omega) | (simp; done))) rfl ?_
      refine WD.eff rfl rfl rfl (Eff.turnC hb10 (Eff.call pf135 rfl (rmix_ok hb10.blk hlr 3 7 11 15 (by decide) (by decide) (by decide) (by decide) _ _))) rfl ?_
      rintro v118 w25 ⟨c25, hM25, hb10⟩
      refine ⟨fun hC => hC.step hCw hM25 rfl, ?_⟩
      replace hCw := hCw.tr hM25 rfl
      replace hbh := hbh.mv hM25 rfl; replace hb8 := hb8.mv hM25 rfl; replace hA := hA.mv hM25 rfl; replace hb13 := hb13.mv hM25 rfl; replace hb15 := hb15.mv hM25 rfl
      simp only [Int.toNat_natCast] at hb10
      have hlr4 := mixS_length V3 3 7 11 15 (gW (wordsS s) a6) (gW (wordsS s) a7)
      rw [hlr] at hlr4
      generalize e4 : mixS V3 3 7 11 15 _ _ = V4 at hb10 hlr4
      replace hlr := hlr4
      refine WD.nil ?_
      clear hbh0 hb80 hb100 hb130 hb150
      clear hCw
      refine cseq ?_
      refine WC.regionD (Kp c25 w25 [110]) [0, 1, 0, 1, 0, 1, 0, 1, 2] [0, 1, 2, 3, 4, 5, 6, 7, 8] mixed (by kernel_rfl) ?_
      have hM26 := Mv.drew c25 w25 []
      have hCw := Mv.drew c25 w25 [110]
      generalize w25.drew = w26 at hM26 hCw ⊢
      have hbh0 := hbh
      have hb80 := hb8
      have hb100 := hb10
      have hb130 := hb13
      have hb150 := hb15
      replace hbh := hbh.mv hM26 rfl; replace hb8 := hb8.mv hM26 rfl; replace hb10 := hb10.mv hM26 rfl; replace hA := hA.mv hM26 rfl; replace hb13 := hb13.mv hM26 rfl; replace hb15 := hb15.mv hM26 rfl
      refine qd rfl rfl rfl (fun _ => Val.indexArr arr157 rfl rfl (by first | omega | assumption | (simp; omega) | (simp; done)) (by first | omega | assumption | (simp; omega) | (simp; done))) rfl <| qc rfl rfl rfl hCw.kp (fun W hW => Val.loadB scl3 rfl (hb150.kp hW rfl).blk rfl) rfl <| qd rfl rfl rfl (fun _ => Val.indexArr arr156 rfl rfl (by first | omega | assumption | (simp; omega) | (simp; done)) (by first | omega | assumption | (simp; omega) | (simp; done))) rfl <| qc rfl rfl rfl hCw.kp (fun W hW => Val.loadW scl136 rfl (hb80.kp hW rfl).blk (by first | omega | assumption | (simp; omega) | (simp; done))) rfl <| qd rfl rfl rfl (fun _ => Val.indexArr arr157 rfl rfl (by first | omega | assumption | (simp; omega) | (simp; done)) (by first | omega | assumption | (simp; omega) | (simp; done))) rfl <| qc rfl rfl rfl hCw.kp (fun W hW => Val.loadB scl3 rfl (hb150.kp hW rfl).blk rfl) rfl <| qd rfl rfl rfl (fun _ => Val.indexArr arr156 rfl rfl (by first | omega | assumption | (simp; omega) | (simp; done)) (by first | omega | assumption | (simp; omega) | (simp; done))) rfl <| qc rfl rfl rfl hCw.kp (fun W hW => Val.loadW scl136 rfl (hb80.kp hW rfl).blk (by first | omega | assumption | (simp; omega) | (simp; done))) rfl ?_
      refine WD.eff rfl rfl rfl (Eff.turnC hb10 (Eff.call pf135 rfl (rmix_ok hb10.blk hlr 0 5 10 15 (by decide) (by decide) (by decide) (by decide) _ _))) rfl ?_
      rintro v127 w27 ⟨c27, hM27, hb10⟩
      refine ⟨fun hC => hC.step hCw hM27 rfl, ?_⟩
      replace hCw := hCw.tr hM27 rfl
      replace hbh := hbh.mv hM27 rfl; replace hb8 := hb8.mv hM27 rfl; replace hA := hA.mv hM27 rfl; replace hb13 := hb13.mv hM27 rfl; replace hb15 := hb15.mv hM27 rfl
      simp only [Int.toNat_natCast] at hb10
      have hlr5 := mixS_length V4 0 5 10 15 (gW (wordsS s) a8) (gW (wordsS s) a9)
      rw [hlr] at hlr5
      generalize e5 : mixS V4 0 5 10 15 _ _ = V5 at hb10 hlr5
      replace hlr := hlr5
      refine WD.nil ?_
      clear hbh0 hb80 hb100 hb130 hb150
      clear hCw
      refine cseq ?_
      refine WC.regionD (Kp c27 w27 [110]) [0, 1, 0, 1, 0, 1, 0, 1, 2] [0, 1, 2, 3, 4, 5, 6, 7, 8] mixed (by kernel_rfl) ?_
      have hM28 := Mv.drew c27 w27 []
      have hCw := Mv.drew c27 w27 [110]
      generalize w27.drew = w28 at hM28 hCw ⊢
      have hbh0 := hbh
      have hb80 := hb8
      have hb100 := hb10
      have hb130 := hb13
      have hb150 := hb15
      replace hbh := hbh.mv hM28 rfl; replace hb8 := hb8.mv hM28 rfl; replace hb10 := hb10.mv hM28 rfl; replace hA := hA.mv hM28 rfl; replace hb13 := hb13.mv hM28 rfl; replace hb15 := hb15.mv hM28 rfl
      refine qd rfl rfl rfl (fun _ => Val.indexArr arr157 rfl rfl (by first | omega | assumption | (simp; omega) | (simp; done)) (by first | omega | assumption | (simp; omega) | (simp; done))) rfl <| qc rfl rfl rfl hCw.kp (fun W hW => Val.loadB scl3 rfl (hb150.kp hW rfl).blk rfl) rfl <| qd rfl rfl rfl (fun _ => Val.indexArr arr156 rfl rfl (by first | omega | assumption | (simp; omega) | (simp; done)) (by first | omega | assumption | (simp; omega) | (simp; done))) rfl <| qc rfl rfl rfl hCw.kp (fun W hW => Val.loadW scl136 rfl (hb80.kp hW rfl).blk (by first | omega | assumption | (simp; omega) | (simp; done))) rfl <| qd rfl rfl rfl (fun _ => Val.indexArr arr157 rfl rfl (by first | omega | assumption | (simp; omega) | (simp; done)) (by first | omega | assumption | (simp; omega) | (simp; done))) rfl <| qc rfl rfl rfl hCw.kp (fun W hW => Val.loadB scl3 rfl (hb150.kp hW rfl).blk rfl) rfl <| qd rfl rfl rfl (fun _ => Val.indexArr arr156 rfl rfl (by first | omega | assumption | (simp; omega) | (simp; done)) (by first | omega | assumption | (simp; omega) | (simp; done))) rfl <| qc rfl rfl rfl hCw.kp (fun W hW => Val.loadW scl136 rfl (hb80.kp hW rfl).blk (by first | omega | assumption | (simp; omega) | (simp; done))) rfl ?_
      refine WD.eff rfl rfl rfl (Eff.turnC hb10 (Eff.call pf135 rfl (rmix_ok hb10.blk hlr 1 6 11 12 (by decide) (by decide) (by decide) (by decide) _ _))) rfl ?_
      rintro v136 w29 ⟨c29, hM29, hb10⟩
      refine ⟨fun hC => hC.step hCw hM29 rfl, ?_⟩
      replace hCw := hCw.tr hM29 rfl
      replace hbh := hbh.mv hM29 rfl; replace hb8 := hb8.mv hM29 rfl; replace hA := hA.mv hM29 rfl; replace hb13 := hb13.mv hM29 rfl; replace hb15 := hb15.mv hM29 rfl
      simp only [Int.toNat_natCast] at hb10
      have hlr6 := mixS_length V5 1 6 11 12 (gW (wordsS s) a10) (gW (wordsS s) a11)
      rw [hlr] at hlr6
      generalize e6 : mixS V5 1 6 11 12 _ _ = V6 at hb10 hlr6
      replace hlr := hlr6
      refine WD.nil ?_
      clear hbh0 hb80 hb100 hb130 hb150
      clear hCw
      refine cseq ?_
      refine WC.regionD (Kp c29 w29 [110]) [0, 1, 0, 1, 0, 1, 0, 1, 2] [0, 1, 2, 3, 4, 5, 6, 7, 8] mixed (by kernel_rfl) ?_
      have hM30 := Mv.drew c29 w29 []
      have hCw := Mv.drew c29 w29 [110]
      generalize w29.drew = w30 at hM30 hCw ⊢
      have hbh0 := hbh
      have hb80 := hb8
      have hb100 := hb10
      have hb130 := hb13
      have hb150 := hb15
      replace hbh := hbh.mv hM30 rfl; replace hb8 := hb8.mv hM30 rfl; replace hb10 := hb10.mv hM30 rfl; replace hA := hA.mv hM30 rfl; replace hb13 := hb13.mv hM30 rfl; replace hb15 := hb15.mv hM30 rfl
      refine qd rfl rfl rfl (fun _ => Val.indexArr arr157 rfl rfl (by first | omega | assumption | (simp; omega) | (simp; done)) (by first | omega | assumption | (simp; omega) | (simp; done))) rfl <| qc rfl rfl rfl hCw.kp (fun W hW => Val.loadB scl3 rfl (hb150.kp hW rfl).blk rfl) rfl <| qd rfl rfl rfl (fun _ => Val.indexArr arr156 rfl rfl (by first | omega | assumption | (simp; omega) | (simp; done)) (by first | omega | assumption | (simp; omega) | (simp; done))) rfl <| qc rfl rfl rfl hCw.kp (fun W hW => Val.loadW scl136 rfl (hb80.kp hW rfl).blk (by first | omega | assumption | (simp; omega) | (simp; done))) rfl <| qd rfl rfl rfl (fun _ => Val.indexArr arr157 rfl rfl (by first | omega | assumption | (simp; omega) | (simp; done)) (by first | omega | assumption | (simp; omega) | (simp; done))) rfl <| qc rfl rfl rfl hCw.kp (fun W hW => Val.loadB scl3 rfl (hb150.kp hW rfl).blk rfl) rfl <| qd rfl rfl rfl (fun _ => Val.indexArr arr156 rfl rfl (by first | omega | assumption | (simp; omega) | (simp; done)) (by first | omega | assumption | (simp; omega) | (simp; done))) rfl <| qc rfl rfl rfl hCw.kp (fun W hW => Val.loadW scl136 rfl (hb80.kp hW rfl).blk (by first | omega | assumption | (simp; omega) | (simp; done))) rfl ?_
      refine WD.eff rfl rfl rfl (Eff.turnC hb10 (Eff.call pf135 rfl (rmix_ok hb10.blk hlr 2 7 8 13 (by decide) (by decide) (by decide) (by decide) _ _))) rfl ?_
      rintro v145 w31 ⟨c31, hM31, hb10⟩
      refine ⟨fun hC => hC.step hCw hM31 rfl, ?_⟩
      replace hCw := hCw.tr hM31 rfl
      replace hbh := hbh.mv hM31 rfl; replace hb8 := hb8.mv hM31 rfl; replace hA := hA.mv hM31 rfl; replace hb13 := hb13.mv hM31 rfl; replace hb15 := hb15.mv hM31 rfl
      simp only [Int.toNat_natCast] at hb10
      have hlr7 := mixS_length V6 2 7 8 13 (gW (wordsS s) a12) (gW (wordsS s) a13)
      rw [hlr] at hlr7
      generalize e7 : mixS V6 2 7 8 13 _ _ = V7 at hb10 hlr7
      replace hlr := hlr7
      refine WD.nil ?_
      clear hbh0 hb80 hb100 hb130 hb150
      clear hCw
      refine WC.regionD (Kp c31 w31 [110]) [0, 1, 0, 1, 0, 1, 0, 1, 2] [0, 1, 2, 3, 4, 5, 6, 7, 8] mixed (by kernel_rfl) ?_
      have hM32 := Mv.drew c31 w31 []
      have hCw := Mv.drew c31 w31 [110]
      generalize w31.drew = w32 at hM32 hCw ⊢
      have hbh0 := hbh
      have hb80 := hb8
      have hb100 := hb10
      have hb130 := hb13
      have hb150 := hb15
      replace hbh := hbh.mv hM32 rfl; replace hb8 := hb8.mv hM32 rfl; replace hb10 := hb10.mv hM32 rfl; replace hA := hA.mv hM32 rfl; replace hb13 := hb13.mv hM32 rfl; replace hb15 := hb15.mv hM32 rfl
      refine qd rfl rfl rfl (fun _ => Val.indexArr arr157 rfl rfl (by first | omega | assumption | (simp; omega) | (simp; done)) (by first | omega | assumption | (simp; omega) | (simp; done))) rfl <| qc rfl rfl rfl hCw.kp (fun W hW => Val.loadB scl3 rfl (hb150.kp hW rfl).blk rfl) rfl <| qd rfl rfl rfl (fun _ => Val.indexArr arr156 rfl rfl (by first | omega | assumption | (simp; omega) | (simp; done)) (by first | omega | assumption | (simp; omega) | (simp; done))) rfl <| qc rfl rfl rfl hCw.kp (fun W hW => Val.loadW scl136 rfl (hb80.kp hW rfl).blk (by first | omega | assumption | (simp; omega) | (simp; done))) rfl <| qd rfl rfl rfl (fun _ => Val.indexArr arr157 rfl rfl (by first | omega | assumption | (simp; omega) | (simp; done)) (by first | omega | assumption | (simp; omega) | (simp; done))) rfl <| qc rfl rfl rfl hCw.kp (fun W hW => Val.loadB scl3 rfl (hb150.kp hW rfl).blk rfl) rfl <| qd rfl rfl rfl (fun _ => Val.indexArr arr156 rfl rfl (by first | omega | assumption | (simp; omega) | (simp; done)) (by first | omega | assumption | (simp; omega) | (simp; done))) rfl <| qc rfl rfl rfl hCw.kp (fun W hW => Val.loadW scl136 rfl (hb80.kp hW rfl).blk (by first | omega | assumption | (simp; omega) | (simp; done))) rfl ?_
      refine WD.eff rfl rfl rfl (Eff.turnC hb10 (Eff.call pf135 rfl (rmix_ok hb10.blk hlr 3 4 9 14 (by decide) (by decide) (by decide) (by decide) _ _))) rfl ?_
      rintro v154 w33 ⟨c33, hM33, hb10⟩
      refine ⟨fun hC => hC.step hCw hM33 rfl, ?_⟩
      replace hCw := hCw.tr hM33 rfl
      replace hbh := hbh.mv hM33 rfl; replace hb8 := hb8.mv hM33 rfl; replace hA := hA.mv hM33 rfl; replace hb13 := hb13.mv hM33 rfl; replace hb15 := hb15.mv hM33 rfl
      simp only [Int.toNat_natCast] at hb10
      have hlr8 := mixS_length V7 3 4 9 14 (gW (wordsS s) a14) (gW (wordsS s) a15)
      rw [hlr] at hlr8
      generalize e8 : mixS V7 3 4 9 14 _ _ = V8 at hb10 hlr8
      replace hlr := hlr8
      refine WD.nil ?_
      clear hbh0 hb80 hb100 hb130 hb150
      clear hCw
      refine cregion <| qq (Val.move rfl) rfl <| qq (Val.addI rfl rfl (by first | omega | assumption | (simp; omega) | (simp; done)) (by first | omega | assumption | (simp; omega) | (simp; done))) rfl <| qq (Val.assign rfl) rfl <| cnil ?_
      have e9 : V8 = rk (wordsS s) (startV h n last) (r + 1) := by rw [rk_succ, rounds_eq _ _ r hrow, e0, e1, e2, e3, e4, e5, e6, e7, e8]
      rw [e9] at hb10
      exact ⟨r + 1, (by repeat (first | exact Sub.nil _ | refine Sub.cons rfl ?_ | refine Sub.consM rfl ?_)), ⟨_, hbh, hb8, hb10, hb13, hA, by omega⟩, by omega⟩
     ·try simp only [tstS] at hc17
      have : r = 10 := by omega
      subst this
      refine WC.exit rfl ?_
      refine cseq <| cregion <| qq (Val.assign rfl) rfl <| cnil <| cblock ?_
      refine WC.loop (σ := Nat) (fun k => [(0, .pointer (some ⟨b, 0, none⟩)), (10, .pointer (some ⟨b10, 0, none⟩)), (16, I k)]) (fun k w' => ∃ c', BlkC c' w' 2 b ((hck h (rk (wordsS s) (startV h n last) 10) k).map W32 ++ []) d8 ∧ BlkC c' w' 110 b10 ((rk (wordsS s) (startV h n last) 10).map W32 ++ []) dV ∧ Acc c w [2, 108, 110, 111, 113, 115] c' w' ∧ k ≤ 8) (fun k => 8 - k) 0 (by repeat (first | exact Sub.nil _ | refine Sub.cons rfl ?_ | refine Sub.consM rfl ?_)) ⟨_, hbh, hb10, hA, by omega⟩ ?_
      clear hbh hb8 hb10 hb13 hA
      rintro k wk' ⟨ck, hbh, hb10, hA, hk⟩
      have hlh : (hck h (rk (wordsS s) (startV h n last) 10) k).length = 8 := by rw [hck_length, hl]
      refine cseq <| cseq <| cregion <| qq (Val.move rfl) rfl <| qq (Val.lss rfl rfl) rfl <| cnil ?_
      refine WC.cond rfl (fun hc29 => ?_) (fun hc29 => ?_)
      ·try simp only [tstS] at hc29
       have hk8 : k < 8 := by omega
       refine cskip <| cseq <| cblock ?_
       refine WC.regionD (Kp ck wk' []) [0, 0, 0, 0, 0, 0, 1, 0, 0, 1, 0, 0, 0, 0, 1, 0, 0, 0, 3] [0, 1, 2, 3, 4, 5, 6, 7, 8, 9, 10, 11, 12, 13, 14, 15, 16, 17, 18] mixed (by kernel_rfl) ?_
       have hM34 := Mv.drew ck wk' []
       have hCw := Mv.drew ck wk' []
       generalize wk'.drew = w34 at hM34 hCw ⊢
       have hbh0 := hbh
       have hb100 := hb10
       replace hbh := hbh.mv hM34 rfl; replace hb10 := hb10.mv hM34 rfl; replace hA := hA.mv hM34 rfl
       refine qd rfl rfl rfl (fun _ => Val.move rfl) rfl <| qd rfl rfl rfl (fun _ => Val.move rfl) rfl <| qd rfl rfl rfl (fun _ => Val.move rfl) rfl <| qd rfl rfl rfl (fun _ => Val.move rfl) rfl <| qd rfl rfl rfl (fun _ => Val.nilCheck rfl) rfl <| qd rfl rfl rfl (fun _ => Val.indexArr arr137 rfl rfl (by first | omega | assumption | (simp; omega) | (simp; done)) (by first | omega | assumption | (simp; omega) | (simp; done))) rfl <| qc rfl rfl rfl hCw.kp (fun W hW => Val.loadW scl136 rfl (hbh0.kp hW rfl).blk (by first | omega | assumption | (simp; omega) | (simp; done))) rfl <| qd rfl rfl rfl (fun _ => Val.move rfl) rfl <| qd rfl rfl rfl (fun _ => Val.indexArr arr156 rfl rfl (by first | omega | assumption | (simp; omega) | (simp; done)) (by first | omega | assumption | (simp; omega) | (simp; done))) rfl ?_
       refine qc rfl rfl rfl hCw.kp (fun W hW => Val.loadW scl136 rfl (hb100.kp hW rfl).blk (by first | omega | assumption | (simp; omega) | (simp; done))) rfl <| qd rfl rfl rfl (fun _ => Val.xor_u32 rfl rfl) rfl <| qd rfl rfl rfl (fun _ => Val.move rfl) rfl <| qd rfl rfl rfl (fun _ => Val.addI rfl rfl (by first | omega | assumption | (simp; omega) | (simp; done)) (by first | omega | assumption | (simp; omega) | (simp; done))) rfl <| qd rfl rfl rfl (fun _ => Val.indexArr arr156 rfl rfl (by first | omega | assumption | (simp; omega) | (simp; done)) (by first | omega | assumption | (simp; omega) | (simp; done))) rfl <| qc rfl rfl rfl hCw.kp (fun W hW => Val.loadW scl136 rfl (hb100.kp hW rfl).blk (by first | omega | assumption | (simp; omega) | (simp; done))) rfl <| qd rfl rfl rfl (fun _ => Val.xor_u32 rfl rfl) rfl <| qd rfl rfl rfl (fun _ => Val.nilCheck rfl) rfl <| qd rfl rfl rfl (fun _ => Val.indexArr arr137 rfl rfl (by first | omega | assumption | (simp; omega) | (simp; done)) (by first | omega | assumption | (simp; omega) | (simp; done))) rfl ?_
       refine WD.wild rfl rfl rfl (Eff.storeW scl136 rfl rfl hbh (by first | omega | assumption | (simp; omega) | (simp; done))) ?_
       rintro _ w35 ⟨hS, hM35⟩
       replace hb10 := hb10.mv hM35 rfl; replace hA := hA.mv hM35 rfl
       replace hbh := hS
       refine WD.nil ?_
       clear hbh0 hb100
       clear hCw
       refine cregion <| qq (Val.move rfl) rfl <| qq (Val.addI rfl rfl (by first | omega | assumption | (simp; omega) | (simp; done)) (by first | omega | assumption | (simp; omega) | (simp; done))) rfl <| qq (Val.assign rfl) rfl <| cnil ?_
       simp only [Int.toNat_natCast, show ((k : Int) + 8).toNat = k + 8 by omega] at hbh
       rw [← hck_succ] at hbh
       exact ⟨k + 1, (by repeat (first | exact Sub.nil _ | refine Sub.cons rfl ?_ | refine Sub.consM rfl ?_)), ⟨_, hbh, hb10, hA, by omega⟩, by omega⟩
      ·try simp only [tstS] at hc29
       have : k = 8 := by omega
       subst this
       refine WC.exit rfl ?_
       refine ⟨_, _, rfl, rfl, ?_⟩
       subst hc
       rw [hck_eight hl] at hbh
       exact ⟨rfl, hA.grownOne, hbh.blk⟩
end Go.Proofs.Ytnddlhjafkhdoaa
