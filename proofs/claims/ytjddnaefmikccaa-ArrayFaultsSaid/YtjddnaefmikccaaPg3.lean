/- The page's disks: a new disk. No condition. -/
import Derived.Test.YtjddnaefmikccaaPg2
set_option linter.unusedSimpArgs false
set_option linter.unusedVariables false
set_option maxRecDepth 100000
namespace Go.Eng
open Go Go.RowKit Silo
section
variable {P : Program} {env : Env} {w : World} {ty : TypeId} {c : Nat → Nat}
/-- A new row beside others. -/
theorem Eff.makeRow {t e : TypeId} {by_ : Nat} {x y : Operand} {kl kc : IntKind} {n : Nat} {i : Nat} {vs : List Value} {L : List (List Txt)} {T : TypeId} (hr : RowsC c w i T vs L) (ht : slT P t = some (e, 1, by_, [St []])) (hx : evO env x = some (.int kl n)) (hy : evO env y = some (.int kc n)) (hb : n * by_ ≤ 281474976710656) (h63 : n ≤ 9223372036854775807) :
    Eff P env w (.makeSlice t x y) ty (fun v w' => ∃ c', Mv c w c' w' [] ∧ OwnC c' w' i e 1 v n (List.replicate n (St [])) ∧ ∀ (k : Nat) (u : Value) (l : List Txt) (b : Nat), vs[k]? = some u → L[k]? = some l → u.rowOf = some b → v.rowOf ≠ some b) :=
  (Eff.make ht hx hy (by omega) (by rw [← Int.natCast_mul]; omega) (by omega)).mono fun v w' ⟨_, ho, hb, _⟩ => by
    obtain ⟨c', hm, hx⟩ := Mv.pure c i hb
    rw [Int.toNat_natCast, flatten_one] at ho
    exact ⟨c', hm, ho.toC hx, hr.newRow fun k hk => (ho.lt k hk).1⟩
/-- A text put behind one of the rows. -/
theorem Eff.rowAppend {s x : Operand} {t u T : TypeId} {by_ : Nat} {z : List Value} (ht : slT P t = some (T, 1, by_, z)) {i k : Nat} {vs : List Value} {L : List (List Txt)} {v xv : Value} {l : List Txt} {q : Txt} (h : RowsC c w i T vs L) (hv : vs[k]? = some v) (hl : L[k]? = some l)
    (hs : evO env s = some v) (hx : evO env x = some xv) (hsrc : Src P w u 1 xv 1 [St q]) (h63 : l.length + 1 ≤ maxLen) (hby : (l.length + 1) * by_ ≤ 140737488355328) :
    Eff P env w (.call ⟨.builtin .append, #[s, x], #[t, u]⟩) ty (fun v' w' => ∃ c', Mv c w c' w' [i] ∧ RowsC c' w' i T (vs.set k v') (L.set k (l ++ [q])) ∧ v'.oneCell' = true ∧ v'.cells = #[v']) :=
  (Eff.append ht hs hx (h.row k v l hv hl).own hsrc h63 hby (Nat.zero_le _)).mono fun v' w' hA => by
    have ho := h.row k v l hv hl
    obtain ⟨c', hm, hox⟩ := hA.mvC ho
    have hox2 : OwnC c' w' i T 1 v' (l ++ [q]).length ((l ++ [q]).map St) := by rw [List.length_append, List.map_append]; exact hox
    refine ⟨c', hm, ⟨by rw [List.length_set, List.length_set]; exact h.len, fun a u m ha hb => ?_, pair_set apartV_symm h.apart fun a y ha hy b h1 h2 => ?_⟩, hox.oneC, hox.cellsV⟩
    · rcases set_at ha with ⟨rfl, rfl, _⟩ | ⟨hak, ha⟩
      · rcases set_at hb with ⟨_, rfl, _⟩ | ⟨hne, _⟩
        · exact hox2
        · exact absurd rfl hne
      · rcases set_at hb with ⟨e, _, _⟩ | ⟨_, hb⟩
        · exact absurd e hak
        · have h1 := h.row a u m ha hb
          exact ⟨h1.own.keepB fun b hb2 => hA.grown.block b (h1.own.lt b hb2).2 fun e => pair_at apartV_symm h.apart ha hv hak b hb2 e.symm, fun b hb2 => (hm.col b (h1.own.lt b hb2).2).trans (h1.col b hb2)⟩
    · obtain ⟨hlt, _⟩ := List.getElem?_eq_some_iff.1 hy
      have h3 := h.row a y _ hy (List.getElem?_eq_getElem (by rw [← h.len]; exact hlt))
      rcases hA.at_ with e | e
      · rw [e] at h1
        exact pair_at apartV_symm h.apart hv hy (fun e2 => ha e2.symm) b h1 h2
      · rw [h1] at e; injection e with e
        have := (h3.own.lt b h2).2; omega
end
end Go.Eng
namespace Go.Proofs.Ytjddnaefmikccaa
open Go Go.Eng Go.RowKit Silo TryT
section
variable {c : Nat → Nat} {w : World} {p : Nat} {B : Arr} {d : Int}
/-- A disk on which the first i sectors lie. -/
abbrev blankD (n i : Nat) : Dsk := ⟨true, List.replicate i zT, List.replicate n []⟩
set_option maxHeartbeats 2000000 in
theorem pblankX_ok {M : Nat} {vL vD vC : Value} {ds cs : List Value} (h : PgX c w p M B vL vD vC ds cs) (hz : 0 < B.sectors ∧ B.sectors ≤ 2048) {k : Nat} (hk : k < B.d.length) (hk12 : B.d.length ≤ 12) : Calls Try.prog 33 #[.pointer (some ⟨p, 0, none⟩), I k] w (Ret fun _ w' => ∃ c', Mv c w c' w' colP ∧ ∃ ds' cs', PgX c' w' p M (setD B k (freshD B.sectors)) vL vD vC ds' cs') := by
  obtain ⟨hl1, hl2⟩ := h.len
  have hJ := OldJ.start c w colP
  replace h := h.inn
  generalize mask c colP = c0 at hJ h
  obtain ⟨hb0, hL, hvD, hvC, hRd, hRc⟩ := h
  have hll : (B.d.map fun x => Value.bool x.live).length = B.d.length := List.length_map ..
  refine enter (n := 53) (res := #[]) Try.func33 rfl rfl rfl rfl ?_
  refine cseq ?_
  refine WC.mono (N := (fun e w' => ∃ c' yc, Sub [(4000000, .tuple #[]), (0, .pointer (some ⟨p, 0, none⟩)), (1, I k)] e ∧ OldJ c w colP c' w' ∧ PgX c' w' p M (setD B k (blankD B.sectors 0)) vL vD vC (ds.set k (.slice none 0 0)) (cs.set k yc))) ?_ ?_
  ·refine WC.regionT (Kp c0 w [81, 82]) [0, 0, 0, 1, 0, 0, 0, 0, 1, 0, 0, 0, 0, 1, 0, 0, 0, 0, 1, 2, 0, 2, 0, 2, 0, 3] (.quiet 0 (.quiet 1 (.quiet 2 (.quiet 3 (.quiet 4 (.quiet 5 (.quiet 6 (.quiet 7 (.quiet 8 (.quiet 9 (.quiet 10 (.quiet 11 (.quiet 12 (.quiet 13 (.quiet 14 (.quiet 15 (.quiet 16 (.quiet 17 (.quiet 18 (.quiet 20 (.two 19 (.one 21 (.quiet 22 (.one 23 (.quiet 24 (.one 25 .nil))))) 21 (.quiet 22 (.two 19 (.one 23 (.quiet 24 (.one 25 .nil))) 23 (.one 19 (.quiet 24 (.one 25 .nil)))))))))))))))))))))))))) mixed (by kernel_rfl) ?_
   have hM1 := Mv.drew c0 w []
   have hCw := Mv.drew c0 w [81, 82]
   generalize w.drew = w1 at hM1 hCw ⊢
   have hb00 := hb0
   replace hJ := hJ.mv hM1; replace hb0 := hb0.mv hM1; replace hL := hL.mv hM1; replace hvD := hvD.mv hM1; replace hvC := hvC.mv hM1; replace hRd := hRd.mv hM1; replace hRc := hRc.mv hM1
   refine WT.val rfl rfl rfl (fun _ => Val.move rfl) rfl ?_
   refine WT.val rfl rfl rfl (fun _ => Val.nilCheck rfl) rfl ?_
   refine WT.val rfl rfl rfl (fun _ => Val.fieldAddr fld52_2 rfl) rfl ?_
   refine WT.valC rfl rfl rfl hCw.kp (fun W hW => Val.loadB scl49 rfl (hb00.kp hW rfl).blk rfl) rfl ?_
   refine WT.val rfl rfl rfl (fun _ => Val.move rfl) rfl ?_
   refine WT.val rfl rfl rfl (fun _ => Val.move rfl) rfl ?_
   refine WT.val rfl rfl rfl (fun _ => Val.nilCheck rfl) rfl ?_
   refine WT.val rfl rfl rfl (fun _ => Val.fieldAddr fld52_3 rfl) rfl ?_
   refine WT.valC rfl rfl rfl hCw.kp (fun W hW => Val.loadB scl50 rfl (hb00.kp hW rfl).blk rfl) rfl ?_
   refine WT.val rfl rfl rfl (fun _ => Val.move rfl) rfl ?_
   refine WT.val rfl rfl rfl (fun _ => Val.move rfl) rfl ?_
   refine WT.val rfl rfl rfl (fun _ => Val.nilCheck rfl) rfl ?_
   refine WT.val rfl rfl rfl (fun _ => Val.fieldAddr fld52_4 rfl) rfl ?_
   refine WT.valC rfl rfl rfl hCw.kp (fun W hW => Val.loadB scl50 rfl (hb00.kp hW rfl).blk rfl) rfl ?_
   refine WT.val rfl rfl rfl (fun _ => Val.move rfl) rfl ?_
   refine WT.val rfl rfl rfl (fun _ => Val.move rfl) rfl ?_
   refine WT.val rfl rfl rfl (fun _ => Val.nilCheck rfl) rfl ?_
   refine WT.val rfl rfl rfl (fun _ => Val.fieldAddr fld52_1 rfl) rfl ?_
   refine WT.valC rfl rfl rfl hCw.kp (fun W hW => Val.loadB scl3 rfl (hb00.kp hW rfl).blk rfl) rfl ?_
   refine WT.val rfl rfl rfl (fun _ => Val.indexO sl49 hL rfl rfl (by omega) (by omega)) rfl ?_
   refine WT.two ?_ ?_
   ·refine WS.eff rfl rfl rfl ((Eff.makeRow hRc sl59 rfl rfl (by omega) (by omega))) rfl ?_
    rintro v24 w2 ⟨c2, hM2, ⟨ho, hn⟩⟩
    refine ⟨fun hC => hC.step hCw hM2 rfl, ?_⟩
    replace hCw := hCw.tr hM2 rfl
    replace hJ := hJ.mv hM2; replace hb0 := hb0.mv hM2; replace hL := hL.mv hM2; replace hvD := hvD.mv hM2; replace hvC := hvC.mv hM2; replace hRd := hRd.mv hM2; replace hRc := hRc.mv hM2
    have q9 := ho.oneC; have q8 := ho.cellsV
    refine WT.one ?_
    refine WS.eff_ rfl rfl rfl (Eff.storeOC scl4 hL side rfl rfl ra ra) ?_
    rintro _ w3 ⟨hS, hM3⟩
    refine ⟨fun hC => hC.step hCw hM3 rfl, ?_⟩
    replace hCw := hCw.tr hM3 rfl
    replace hJ := hJ.mv hM3; replace hb0 := hb0.mv hM3; replace hvD := hvD.mv hM3; replace hvC := hvC.mv hM3; replace hRd := hRd.mv hM3; replace hRc := hRc.mv hM3; replace ho := ho.mv hM3
    replace hL := hS
    refine WT.val rfl rfl rfl (fun _ => Val.indexO sl50 hvD rfl rfl (by omega) (by omega)) rfl ?_
    refine WT.one ?_
    refine WS.eff_ rfl rfl rfl (Eff.storeOC scl59 hvD side rfl rfl ra ra) ?_
    rintro _ w4 ⟨hS, hM4⟩
    refine ⟨fun hC => hC.step hCw hM4 rfl, ?_⟩
    replace hCw := hCw.tr hM4 rfl
    replace hJ := hJ.mv hM4; replace hb0 := hb0.mv hM4; replace hL := hL.mv hM4; replace hvC := hvC.mv hM4; replace hRd := hRd.mv hM4; replace hRc := hRc.mv hM4; replace ho := ho.mv hM4
    replace hvD := hS
    refine WT.val rfl rfl rfl (fun _ => Val.indexO sl50 hvC rfl rfl (by omega) (by omega)) rfl ?_
    refine WT.one ?_
    refine WS.wild rfl rfl rfl (Eff.storeOC scl59 hvC side rfl rfl ra ra) ?_
    rintro _ w5 ⟨hS, hM5⟩
    replace hJ := hJ.mv hM5; replace hb0 := hb0.mv hM5; replace hL := hL.mv hM5; replace hvD := hvD.mv hM5; replace hRd := hRd.mv hM5; replace hRc := hRc.mv hM5; replace ho := ho.mv hM5
    replace hvC := hS
    refine WT.nil ?_
    rw [Int.toNat_natCast] at hL hvD hvC
    refine ⟨_, v24, subs, hJ, ⟨?_, ?_, ?_, ?_, ?_, ?_⟩⟩
    · exact hb0
    · rw [show ((setD B k (blankD B.sectors 0)).d.map fun x => Value.bool x.live) = (B.d.map fun x => Value.bool x.live).set k (.bool true) from List.map_set .., List.length_set]; exact hL
    · rw [List.length_set]; exact hvD
    · rw [List.length_set]; exact hvC
    · rw [show (setD B k (blankD B.sectors 0)).d.map (·.l) = (B.d.map (·.l)).set k [] from List.map_set ..]
      exact hRd.repl (OwnC.nil _ _ _ _ _) fun _ _ _ _ _ _ _ h => by simp [Value.rowOf] at h
    · rw [show (setD B k (blankD B.sectors 0)).d.map (·.cache) = (B.d.map (·.cache)).set k (List.replicate B.sectors []) from List.map_set ..]
      exact hRc.repl (by rw [List.length_replicate, List.map_replicate]; exact ho) hn
   ·refine WS.eff_ rfl rfl rfl (Eff.storeOC scl4 hL side rfl rfl ra ra) ?_
    rintro _ w6 ⟨hS, hM6⟩
    refine ⟨fun hC => hC.step hCw hM6 rfl, ?_⟩
    replace hCw := hCw.tr hM6 rfl
    replace hJ := hJ.mv hM6; replace hb0 := hb0.mv hM6; replace hvD := hvD.mv hM6; replace hvC := hvC.mv hM6; replace hRd := hRd.mv hM6; replace hRc := hRc.mv hM6
    replace hL := hS
    refine WT.val rfl rfl rfl (fun _ => Val.indexO sl50 hvD rfl rfl (by omega) (by omega)) rfl ?_
    refine WT.two ?_ ?_
    ·refine WS.eff rfl rfl rfl ((Eff.makeRow hRc sl59 rfl rfl (by omega) (by omega))) rfl ?_
     rintro v24 w7 ⟨c7, hM7, ⟨ho, hn⟩⟩
     refine ⟨fun hC => hC.step hCw hM7 rfl, ?_⟩
     replace hCw := hCw.tr hM7 rfl
     replace hJ := hJ.mv hM7; replace hb0 := hb0.mv hM7; replace hL := hL.mv hM7; replace hvD := hvD.mv hM7; replace hvC := hvC.mv hM7; replace hRd := hRd.mv hM7; replace hRc := hRc.mv hM7
     have q9 := ho.oneC; have q8 := ho.cellsV
     refine WT.one ?_
     refine WS.eff_ rfl rfl rfl (Eff.storeOC scl59 hvD side rfl rfl ra ra) ?_
     rintro _ w8 ⟨hS, hM8⟩
     refine ⟨fun hC => hC.step hCw hM8 rfl, ?_⟩
     replace hCw := hCw.tr hM8 rfl
     replace hJ := hJ.mv hM8; replace hb0 := hb0.mv hM8; replace hL := hL.mv hM8; replace hvC := hvC.mv hM8; replace hRd := hRd.mv hM8; replace hRc := hRc.mv hM8; replace ho := ho.mv hM8
     replace hvD := hS
     refine WT.val rfl rfl rfl (fun _ => Val.indexO sl50 hvC rfl rfl (by omega) (by omega)) rfl ?_
     refine WT.one ?_
     refine WS.wild rfl rfl rfl (Eff.storeOC scl59 hvC side rfl rfl ra ra) ?_
     rintro _ w9 ⟨hS, hM9⟩
     replace hJ := hJ.mv hM9; replace hb0 := hb0.mv hM9; replace hL := hL.mv hM9; replace hvD := hvD.mv hM9; replace hRd := hRd.mv hM9; replace hRc := hRc.mv hM9; replace ho := ho.mv hM9
     replace hvC := hS
     refine WT.nil ?_
     rw [Int.toNat_natCast] at hL hvD hvC
     refine ⟨_, v24, subs, hJ, ⟨?_, ?_, ?_, ?_, ?_, ?_⟩⟩
     · exact hb0
     · rw [show ((setD B k (blankD B.sectors 0)).d.map fun x => Value.bool x.live) = (B.d.map fun x => Value.bool x.live).set k (.bool true) from List.map_set .., List.length_set]; exact hL
     · rw [List.length_set]; exact hvD
     · rw [List.length_set]; exact hvC
     · rw [show (setD B k (blankD B.sectors 0)).d.map (·.l) = (B.d.map (·.l)).set k [] from List.map_set ..]
       exact hRd.repl (OwnC.nil _ _ _ _ _) fun _ _ _ _ _ _ _ h => by simp [Value.rowOf] at h
     · rw [show (setD B k (blankD B.sectors 0)).d.map (·.cache) = (B.d.map (·.cache)).set k (List.replicate B.sectors []) from List.map_set ..]
       exact hRc.repl (by rw [List.length_replicate, List.map_replicate]; exact ho) hn
    ·refine WS.eff_ rfl rfl rfl (Eff.storeOC scl59 hvD side rfl rfl ra ra) ?_
     rintro _ w10 ⟨hS, hM10⟩
     refine ⟨fun hC => hC.step hCw hM10 rfl, ?_⟩
     replace hCw := hCw.tr hM10 rfl
     replace hJ := hJ.mv hM10; replace hb0 := hb0.mv hM10; replace hL := hL.mv hM10; replace hvC := hvC.mv hM10; replace hRd := hRd.mv hM10; replace hRc := hRc.mv hM10
     replace hvD := hS
     refine WT.one ?_
     refine WS.eff rfl rfl rfl ((Eff.makeRow hRc sl59 rfl rfl (by omega) (by omega))) rfl ?_
     rintro v24 w11 ⟨c11, hM11, ⟨ho, hn⟩⟩
     refine ⟨fun hC => hC.step hCw hM11 rfl, ?_⟩
     replace hCw := hCw.tr hM11 rfl
     replace hJ := hJ.mv hM11; replace hb0 := hb0.mv hM11; replace hL := hL.mv hM11; replace hvD := hvD.mv hM11; replace hvC := hvC.mv hM11; replace hRd := hRd.mv hM11; replace hRc := hRc.mv hM11
     have q9 := ho.oneC; have q8 := ho.cellsV
     refine WT.val rfl rfl rfl (fun _ => Val.indexO sl50 hvC rfl rfl (by omega) (by omega)) rfl ?_
     refine WT.one ?_
     refine WS.wild rfl rfl rfl (Eff.storeOC scl59 hvC side rfl rfl ra ra) ?_
     rintro _ w12 ⟨hS, hM12⟩
     replace hJ := hJ.mv hM12; replace hb0 := hb0.mv hM12; replace hL := hL.mv hM12; replace hvD := hvD.mv hM12; replace hRd := hRd.mv hM12; replace hRc := hRc.mv hM12; replace ho := ho.mv hM12
     replace hvC := hS
     refine WT.nil ?_
     rw [Int.toNat_natCast] at hL hvD hvC
     refine ⟨_, v24, subs, hJ, ⟨?_, ?_, ?_, ?_, ?_, ?_⟩⟩
     · exact hb0
     · rw [show ((setD B k (blankD B.sectors 0)).d.map fun x => Value.bool x.live) = (B.d.map fun x => Value.bool x.live).set k (.bool true) from List.map_set .., List.length_set]; exact hL
     · rw [List.length_set]; exact hvD
     · rw [List.length_set]; exact hvC
     · rw [show (setD B k (blankD B.sectors 0)).d.map (·.l) = (B.d.map (·.l)).set k [] from List.map_set ..]
       exact hRd.repl (OwnC.nil _ _ _ _ _) fun _ _ _ _ _ _ _ h => by simp [Value.rowOf] at h
     · rw [show (setD B k (blankD B.sectors 0)).d.map (·.cache) = (B.d.map (·.cache)).set k (List.replicate B.sectors []) from List.map_set ..]
       exact hRc.repl (by rw [List.length_replicate, List.map_replicate]; exact ho) hn
  ·skip
   rintro e9 w9 ⟨c9, yc, hsub, hJ, h⟩
   refine WC.sub hsub ?_
   clear hsub e9 hb0 hL hvD hvC hRd hRc
   refine cseq <| cg <| za rfl <| cnil <| cblock ?_
   refine WC.loop (σ := Nat) (fun i => [(0, .pointer (some ⟨p, 0, none⟩)), (1, I k), (4, I i)]) (fun i w' => i ≤ B.sectors ∧ ∃ c' ds' cs', OldJ c w colP c' w' ∧ PgX c' w' p M (setD B k (blankD B.sectors i)) vL vD vC ds' cs') (fun i => B.sectors - i) 0 subs ⟨by omega, _, _, _, hJ, h⟩ ?_
   clear hJ h
   rintro i wl ⟨hi9, cl, ds', cs', hJ, h⟩
   obtain ⟨hm1, hm2⟩ := h.len
   rw [setD_len] at hm1 hm2
   have hkk : k < (setD B k (blankD B.sectors i)).d.length := by rw [setD_len]; exact hk
   obtain ⟨yd, yc, hyd, hyc, hod, hoc, hc46, _⟩ := h.rows hkk
   have hsl : ((setD B k (blankD B.sectors i)).d.map (·.l))[k]? = some (List.replicate i zT) := by simp [setD, hk]
   clear hod hoc
   obtain ⟨hb0, hL, hvD, hvC, hRd, hRc⟩ := h
   refine cseq <| cseq <| cg <| zm rfl <| zm rfl <| vq (Val.nilCheck rfl) <| vq (Val.fieldAddr fld52_1 rfl) <| vq (Val.loadB scl3 rfl hb0.blk rfl) <| vq (Val.lss rfl rfl) ?_
   refine cnil ?_
   refine WC.cond rfl (fun hc2 => ?_) (fun hc2 => ?_)
   ·try simp only [tstS] at hc2
    have hi2 : i < B.sectors := Int.ofNat_lt.1 hc2
    refine cskip <| cseq <| cblock ?_
    refine WC.regionD (Kp cl wl [84]) [0, 0, 0, 1, 0, 0, 0, 0, 1, 0, 0, 1, 2, 2, 2, 2, 0, 3] [0, 1, 2, 3, 4, 5, 6, 7, 8, 9, 10, 11, 12, 13, 14, 15, 16, 17] mixed (by kernel_rfl) ?_
    have hM13 := Mv.drew cl wl []
    have hCw := Mv.drew cl wl [84]
    generalize wl.drew = w13 at hM13 hCw ⊢
    have hb00 := hb0
    have hc460 := hc46
    replace hJ := hJ.mv hM13; replace hb0 := hb0.mv hM13; replace hL := hL.mv hM13; replace hvD := hvD.mv hM13; replace hvC := hvC.mv hM13; replace hRd := hRd.mv hM13; replace hRc := hRc.mv hM13; replace hc46 := hc46.mv hM13
    refine zdm rfl rfl <| vd rfl (fun _ => Val.nilCheck rfl) <| vd rfl (fun _ => Val.fieldAddr fld52_3 rfl) <| vc rfl hCw.kp (fun W hW => Val.loadB scl50 rfl (hb00.kp hW rfl).blk rfl) <| zdm rfl rfl <| zdm rfl rfl <| vd rfl (fun _ => Val.nilCheck rfl) <| vd rfl (fun _ => Val.fieldAddr fld52_3 rfl) <| vc rfl hCw.kp (fun W hW => Val.loadB scl50 rfl (hb00.kp hW rfl).blk rfl) ?_
    refine zdm rfl rfl <| vd rfl (fun _ => Val.indexO sl50 hvD rfl rfl (by omega) (by omega)) <| vc rfl hCw.kp (fun W hW => Val.loadE1 scl59 rfl (hc460.kp hW rfl).cel) ?_
    refine WD.eff rfl rfl rfl (Eff.makeC cl 86 sl64 rfl rfl side side side) rfl ?_
    rintro v48 w14 ⟨c14, hM14, ho48⟩
    refine ⟨fun hC => hC.step hCw hM14 rfl, ?_⟩
    replace hCw := hCw.tr hM14 rfl
    replace hJ := hJ.mv hM14; replace hb0 := hb0.mv hM14; replace hL := hL.mv hM14; replace hvD := hvD.mv hM14; replace hvC := hvC.mv hM14; replace hRd := hRd.mv hM14; replace hRc := hRc.mv hM14; replace hc46 := hc46.mv hM14
    rw [show (64 : Int).toNat = 64 from rfl, bytesV_zero] at ho48
    refine WD.eff rfl rfl rfl (Eff.val ((Val.ofBytes Try.underlying64 Try.underlying9 Try.underlying5 rfl ho48.own))) rfl ?_
    rintro _ _ ⟨rfl, rfl⟩
    refine ⟨id, ?_⟩
    refine WD.eff rfl rfl rfl (Eff.build1C c14 150 sl59 rfl rfl rfl rfl rfl) rfl ?_
    rintro _ w15 ⟨b50, c15, rfl, hM15, hb50⟩
    refine ⟨fun hC => hC.step hCw hM15 rfl, ?_⟩
    replace hCw := hCw.tr hM15 rfl
    replace hJ := hJ.mv hM15; replace hb0 := hb0.mv hM15; replace hL := hL.mv hM15; replace hvD := hvD.mv hM15; replace hvC := hvC.mv hM15; replace hRd := hRd.mv hM15; replace hRc := hRc.mv hM15; replace hc46 := hc46.mv hM15; replace ho48 := ho48.mv hM15
    refine WD.eff rfl rfl rfl ((Eff.rowAppend (s := .tmp 47) (x := .tmp 50) sl59 hRd hyd hsl rfl rfl (Src.cellsAt Try.underlying59 hb50.blk.cellsAt rfl ones) (by rw [maxLen_eq, List.length_replicate]; omega) (by rw [List.length_replicate]; omega))) rfl ?_
    rintro v51 w16 ⟨c16, hM16, ⟨hRd, hv1, hv2⟩⟩
    refine ⟨fun hC => hC.step hCw hM16 rfl, ?_⟩
    replace hCw := hCw.tr hM16 rfl
    replace hJ := hJ.mv hM16; replace hb0 := hb0.mv hM16; replace hL := hL.mv hM16; replace hvD := hvD.mv hM16; replace hvC := hvC.mv hM16; replace hRc := hRc.mv hM16; replace hc46 := hc46.mv hM16; replace ho48 := ho48.mv hM16; replace hb50 := hb50.mv hM16
    refine vd rfl (fun _ => Val.indexO sl50 hvD rfl rfl (by omega) (by omega)) ?_
    refine WD.wild rfl rfl rfl (Eff.storeOC scl59 hvD side rfl rfl ra ra) ?_
    rintro _ w17 ⟨hS, hM17⟩
    replace hJ := hJ.mv hM17; replace hb0 := hb0.mv hM17; replace hL := hL.mv hM17; replace hvC := hvC.mv hM17; replace hRd := hRd.mv hM17; replace hRc := hRc.mv hM17; replace ho48 := ho48.mv hM17; replace hb50 := hb50.mv hM17
    replace hvD := hS
    refine WD.nil ?_
    clear hb00 hc460
    clear hCw
    refine cg <| zm rfl <| vq (Val.addI rfl rfl side side) <| za rfl <| cnil ?_
    rw [Int.toNat_natCast] at hvD
    refine ⟨i + 1, subs, ⟨by omega, _, ds'.set k v51, cs', hJ, ?_⟩, by omega⟩
    rw [← setD_set B k (blankD B.sectors i) (blankD B.sectors (i + 1))]
    refine ⟨?_, ?_, ?_, hvC, ?_, ?_⟩
    · exact hb0
    · rw [setD_live hkk (by rw [dskA_set hk])]; exact hL
    · rw [List.length_set]; exact hvD
    · rw [show (setD (setD B k (blankD B.sectors i)) k (blankD B.sectors (i + 1))).d.map (·.l) = ((setD B k (blankD B.sectors i)).d.map (·.l)).set k (List.replicate (i + 1) zT) from List.map_set .., List.replicate_succ']; exact hRd
    · rw [setD_c hkk (by rw [dskA_set hk])]; exact hRc
   ·try simp only [tstS] at hc2
    have e : i = B.sectors := by have h5 : ¬ ((i : Int) < B.sectors) := hc2; omega
    refine WC.exit rfl ?_
    refine ⟨_, _, rfl, rfl, ?_⟩
    refine ⟨rfl, _, hJ.out, ds', cs', PgX.out ?_ hJ⟩
    rw [show freshD B.sectors = blankD B.sectors i by rw [e]; rfl]
    exact ⟨hb0, hL, hvD, hvC, hRd, hRc⟩
theorem pblank_ok (h : PgC c w p B) (hz : 0 < B.sectors ∧ B.sectors ≤ 2048) {k : Nat} (hk : k < B.d.length) (hk12 : B.d.length ≤ 12) : Calls Try.prog 33 #[.pointer (some ⟨p, 0, none⟩), I k] w (Ret fun _ w' => ∃ c', Mv c w c' w' colP ∧ PgC c' w' p (setD B k (freshD B.sectors))) := by
  obtain ⟨vL, vD, vC, ds, cs, h⟩ := h
  exact (pblankX_ok h hz hk hk12).mono fun _ _ ⟨v, hv, c', hm, ds', cs', h⟩ => ⟨v, hv, c', hm, h.shut⟩
theorem preplace_ok (h : PgC c w p B) (hB : WfB B) : Calls Try.prog 43 #[.pointer (some ⟨p, 0, none⟩), I d] w (Ret fun u w' => ∃ c', Mv c w c' w' colP ∧ PgC c' w' p (replaceA B d).1 ∧ u = I (replaceA B d).2) := by
  have hJ := OldJ.start c w colP
  replace h := h.inn
  generalize mask c colP = c0 at hJ h
  have hz := hB.wf.many
  obtain ⟨vL, vD, vC, ds, cs, h⟩ := h
  have hb0 := h.hbp
  replace h := h.shut
  refine enter (n := 16) (res := #[.tmp 4]) Try.func43 rfl rfl rfl rfl ?_
  refine cseq <| cg <| za rfl <| cnil <| cseq <| cseq <| cg <| zm rfl <| zm rfl ?_
  refine vq (Val.nilCheck rfl) <| vq (Val.fieldAddr fld52_0 rfl) <| vq (Val.loadB scl3 rfl hb0.blk rfl) <| vq (Val.subI rfl rfl side side) ?_
  refine ve (Eff.pureC c0 1 (Eff.call pf50 rfl (num_ok _ _))) ?_
  rintro v11 w1 ⟨c1, hM1, hx1, rfl⟩
  replace hJ := hJ.mv hM1; replace hb0 := hb0.mv hM1; replace h := h.mv hM1
  rw [numD]
  refine vq (Val.not rfl) <| cnil ?_
  refine WC.cond rfl (fun hc1 => ?_) (fun hc1 => ?_)
  ·try simp only [tstS] at hc1
   refine cseq <| cg <| za rfl <| cnil ?_
   refine WC.ret1 rfl rfl ?_
   exact ⟨_, hJ.out, by simpa [replaceA, hc1] using h.out hJ, by simp [replaceA, hc1]⟩
  ·try simp only [tstS] at hc1
   obtain ⟨k, rfl, hk⟩ := isA_nat hc1
   refine cskip <| cseq <| cg <| zm rfl <| zm rfl ?_
   refine ve (Eff.call pf33 rfl (pblank_ok h hB.wf.sec hk hz.2)) ?_
   rintro v15 w2 ⟨c2, hM2, h⟩
   replace hJ := hJ.mv hM2
   refine cnil <| cseq <| cg <| za rfl <| cnil ?_
   refine WC.ret1 rfl rfl ?_
   exact ⟨_, hJ.out, by simpa [replaceA, hc1] using h.out hJ, by simp [replaceA, hc1]⟩
end
end Go.Proofs.Ytjddnaefmikccaa
namespace Go.Eng
open Go Go.RowKit Silo
section
variable {c c' : Nat → Nat} {w : World} (hc : ∀ k i, i ≠ 0 → c k = i → c' k = i)
include hc
theorem PgC.re {p : Nat} {B : Arr} (h : PgC c w p B) : PgC c' w p B := by
  obtain ⟨vL, vD, vC, ds, cs, h⟩ := h
  exact ⟨vL, vD, vC, ds, cs, h.hbp.re hc, h.live.re hc, h.disk.re hc, h.cache.re hc, h.rd.re hc, h.rc.re hc⟩
end
end Go.Eng
namespace Go.Proofs.Ytjddnaefmikccaa
open Go Go.Eng Go.RowKit Silo TryT
set_option maxHeartbeats 1000000 in
theorem pnew_ok {c : Nat → Nat} {w : World} {k j : Nat} (hk : k ≤ 12) (hj : 0 < j ∧ j ≤ 2048) : Calls Try.prog 21 #[I k, I j] w (Ret fun u w' => ∃ c', Mv c w c' w' [] ∧ ∃ p, u = .pointer (some ⟨p, 0, none⟩) ∧ PgC c' w' p (newA k j)) := by
  have hJ := OldJ.start c w []
  generalize mask c [] = c0 at hJ
  refine enter (n := 47) (res := #[.tmp 4]) Try.func21 rfl rfl rfl rfl ?_
  refine cseq <| cg <| za rfl <| cnil <| cseq <| cg <| zm rfl <| zm rfl <| vq (Val.build (cells := #[I k, I j, .slice none 0 0, .slice none 0 0, .slice none 0 0, I (-1), I 0]) rfl (by kernel_rfl)) ?_
  refine ve (Eff.boxC c0 80 rfl) ?_
  rintro _ w1 ⟨b10, c1, rfl, hM1, hb10⟩
  replace hJ := hJ.mv hM1
  refine za rfl <| cnil <| cseq <| cseq <| cg <| za rfl <| cnil <| cblock ?_
  refine WC.loop (σ := Nat) (fun i => [(0, I k), (5, .pointer (some ⟨b10, 0, none⟩)), (6, I i)]) (fun i w' => i ≤ k ∧ ∃ c' vL vD vC ds cs, OldJ c w [] c' w' ∧ PgX c' w' b10 k (newA i j) vL vD vC ds cs) (fun i => k - i) 0 subs ⟨by omega, _, _, _, _, [], [], hJ, ⟨hb10, OwnC.nil _ _ _ _ _, OwnC.nil _ _ _ _ _, OwnC.nil _ _ _ _ _, RowsC.nil, RowsC.nil⟩⟩ ?_
  clear hJ hb10
  rintro i wl ⟨hi9, cl, vL, vD, vC, ds, cs, hJ, h⟩
  obtain ⟨hm1, hm2⟩ := h.len
  have hni : (newA i j).d.length = i := List.length_replicate
  rw [hni] at hm1 hm2
  obtain ⟨⟨q1, q2, q3⟩, q4, q5, q6⟩ := h.one
  obtain ⟨hb10, hL, hvD, hvC, hRd, hRc⟩ := h
  have hll : ((newA i j).d.map fun x => Value.bool x.live).length = i := by rw [List.length_map, hni]
  rw [hll] at hL
  refine cseq <| cseq <| cg <| zm rfl <| zm rfl <| vq (Val.lss rfl rfl) <| cnil ?_
  refine WC.cond rfl (fun hc3 => ?_) (fun hc3 => ?_)
  ·try simp only [tstS] at hc3
   refine cskip <| cseq <| cblock <| cseq <| cg <| zm rfl <| zm rfl <| vq (Val.nilCheck rfl) <| vq (Val.fieldAddr fld52_2 rfl) ?_
   refine vq (Val.loadB scl49 rfl hb10.blk rfl) ?_
   refine ve (Eff.build1C cl 121 sl49 rfl rfl rfl rfl rfl) ?_
   rintro _ w2 ⟨b21, c2, rfl, hM2, hb21⟩
   replace hJ := hJ.mv hM2; replace hb10 := hb10.mv hM2; replace hL := hL.mv hM2; replace hvD := hvD.mv hM2; replace hvC := hvC.mv hM2; replace hRd := hRd.mv hM2; replace hRc := hRc.mv hM2
   refine ve (Eff.appendC sl49 rfl rfl hL (Src.cellsAt Try.underlying49 hb21.blk.cellsAt rfl ones) mxl oms) ?_
   rintro v22 w3 ⟨c3, hM3, hOq⟩
   clear hb21
   replace hJ := hJ.mv hM3; replace hb10 := hb10.mv hM3; replace hvD := hvD.mv hM3; replace hvC := hvC.mv hM3; replace hRd := hRd.mv hM3; replace hRc := hRc.mv hM3
   replace hL := hOq
   have q7 := hL.oneC; have q8 := hL.cellsV
   refine vq (Val.nilCheck rfl) <| vq (Val.fieldAddr fld52_2 rfl) ?_
   refine WR.eff_ (Eff.storeC scl49 rfl rfl ra ra hb10 rfl) ?_
   rintro _ w4 ⟨hS, hM4⟩
   replace hJ := hJ.mv hM4; replace hL := hL.mv hM4; replace hvD := hvD.mv hM4; replace hvC := hvC.mv hM4; replace hRd := hRd.mv hM4; replace hRc := hRc.mv hM4
   replace hb10 := hS
   refine cnil <| cseq <| cg <| zm rfl <| zm rfl <| vq (Val.nilCheck rfl) <| vq (Val.fieldAddr fld52_3 rfl) <| vq (Val.loadB scl50 rfl hb10.blk rfl) ?_
   refine ve (Eff.build1C c3 130 sl50 rfl rfl rfl rfl rfl) ?_
   rintro _ w5 ⟨b30, c5, rfl, hM5, hb30⟩
   replace hJ := hJ.mv hM5; replace hb10 := hb10.mv hM5; replace hL := hL.mv hM5; replace hvD := hvD.mv hM5; replace hvC := hvC.mv hM5; replace hRd := hRd.mv hM5; replace hRc := hRc.mv hM5
   refine ve (Eff.appendC sl50 rfl rfl hvD (Src.cellsAt Try.underlying50 hb30.blk.cellsAt rfl ones) mxl oms) ?_
   rintro v31 w6 ⟨c6, hM6, hOq⟩
   clear hb30
   replace hJ := hJ.mv hM6; replace hb10 := hb10.mv hM6; replace hL := hL.mv hM6; replace hvC := hvC.mv hM6; replace hRd := hRd.mv hM6; replace hRc := hRc.mv hM6
   replace hvD := hOq
   have q7 := hvD.oneC; have q8 := hvD.cellsV
   refine vq (Val.nilCheck rfl) <| vq (Val.fieldAddr fld52_3 rfl) ?_
   refine WR.eff_ (Eff.storeC scl50 rfl rfl ra ra hb10 rfl) ?_
   rintro _ w7 ⟨hS, hM7⟩
   replace hJ := hJ.mv hM7; replace hL := hL.mv hM7; replace hvD := hvD.mv hM7; replace hvC := hvC.mv hM7; replace hRd := hRd.mv hM7; replace hRc := hRc.mv hM7
   replace hb10 := hS
   refine cnil <| cseq <| cg <| zm rfl <| zm rfl <| vq (Val.nilCheck rfl) <| vq (Val.fieldAddr fld52_4 rfl) <| vq (Val.loadB scl50 rfl hb10.blk rfl) ?_
   refine ve (Eff.build1C c6 139 sl50 rfl rfl rfl rfl rfl) ?_
   rintro _ w8 ⟨b39, c8, rfl, hM8, hb39⟩
   replace hJ := hJ.mv hM8; replace hb10 := hb10.mv hM8; replace hL := hL.mv hM8; replace hvD := hvD.mv hM8; replace hvC := hvC.mv hM8; replace hRd := hRd.mv hM8; replace hRc := hRc.mv hM8
   refine ve (Eff.appendC sl50 rfl rfl hvC (Src.cellsAt Try.underlying50 hb39.blk.cellsAt rfl ones) mxl oms) ?_
   rintro v40 w9 ⟨c9, hM9, hOq⟩
   clear hb39
   replace hJ := hJ.mv hM9; replace hb10 := hb10.mv hM9; replace hL := hL.mv hM9; replace hvD := hvD.mv hM9; replace hRd := hRd.mv hM9; replace hRc := hRc.mv hM9
   replace hvC := hOq
   have q7 := hvC.oneC; have q8 := hvC.cellsV
   refine vq (Val.nilCheck rfl) <| vq (Val.fieldAddr fld52_4 rfl) ?_
   refine WR.eff_ (Eff.storeC scl50 rfl rfl ra ra hb10 rfl) ?_
   rintro _ w10 ⟨hS, hM10⟩
   replace hJ := hJ.mv hM10; replace hL := hL.mv hM10; replace hvD := hvD.mv hM10; replace hvC := hvC.mv hM10; replace hRd := hRd.mv hM10; replace hRc := hRc.mv hM10
   replace hb10 := hS
   refine cnil ?_
   have hns : newA (i + 1) j = setD ⟨(newA i j).d ++ [⟨true, [], []⟩], j, false, -1, 0⟩ i (freshD j) := by
     simp only [newA, setD]
     rw [List.set_append_right _ _ (by simp)]
     simp [List.replicate_succ']
   have hRd2 := hRd.snoc (v := .slice none 0 0) (l' := []) (OwnC.nil _ _ _ _ _) (fun _ _ _ _ _ _ _ h => by simp [Value.rowOf] at h)
   have hRc2 := hRc.snoc (v := .slice none 0 0) (l' := []) (OwnC.nil _ _ _ _ _) (fun _ _ _ _ _ _ _ h => by simp [Value.rowOf] at h)
   have hn9 : (⟨(newA i j).d ++ [⟨true, [], []⟩], j, false, -1, 0⟩ : Arr).d.length = i + 1 := by rw [List.length_append, hni]; rfl
   have h9 := PgX.mk (B := ⟨(newA i j).d ++ [⟨true, [], []⟩], j, false, -1, 0⟩) (ds := ds ++ [.slice none 0 0]) (cs := cs ++ [.slice none 0 0]) hb10 (by rw [List.map_append, List.length_append, List.length_map, hni]; exact hL) (by rw [List.length_append]; exact hvD) (by rw [List.length_append]; exact hvC) (by rw [List.map_append]; exact hRd2) (by rw [List.map_append]; exact hRc2)
   refine cg <| zm rfl <| zm rfl ?_
   refine ve (Eff.call pf33 rfl (pblankX_ok h9 hj (by rw [hn9]; omega) (by rw [hn9]; omega))) ?_
   rintro v45 w11 ⟨c11, hM11, ⟨ds2, cs2, h9⟩⟩
   replace hJ := hJ.mv hM11
   refine cnil <| cg <| zm rfl <| vq (Val.addI rfl rfl side side) <| za rfl <| cnil ?_
   refine ⟨i + 1, subs, ⟨by omega, _, v22, v31, v40, ds2, cs2, hJ, ?_⟩, by omega⟩
   rw [hns]; exact h9
  ·try simp only [tstS] at hc3
   refine WC.exit rfl ?_
   refine cseq <| cg <| zm rfl <| za rfl <| cnil ?_
   refine WC.ret1 rfl rfl ?_
   have e : i = k := by omega
   subst e
   have h := PgX.mk (M := i) (B := newA i j) hb10 (by rw [hll]; exact hL) hvD hvC hRd hRc
   exact ⟨_, hJ.out, _, rfl, (h.shut hni.symm).re hJ.back0⟩
end Go.Proofs.Ytjddnaefmikccaa
