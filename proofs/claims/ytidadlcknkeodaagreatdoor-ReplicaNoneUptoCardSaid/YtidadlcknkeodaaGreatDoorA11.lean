/- A part of the proof. -/
import Derived.Test.YtidadlcknkeodaaGreatDoorA10
import Derived.Test.YtidadlcknkeodaaGreatDoorA04
set_option maxHeartbeats 2000000
/- The oracle of (*database.tables).policyList: the policies of a map that is known, in the order of their names. -/
namespace Go.MiniT
open Go Go.Mini Go.RowKit Go.WW
structure PolE where
  name : List Nat
  ns : List Int
abbrev PolE.cells (p : PolE) : List MV := .str p.name :: p.ns.map (.int .i64)
def PolE.pol (p : PolE) : Policy := ⟨bytesV p.name, p.ns.getD 0 0, p.ns.getD 1 0, p.ns.getD 2 0, p.ns.getD 3 0, p.ns.getD 4 0, p.ns.getD 5 0, p.ns.getD 6 0, p.ns.getD 7 0, p.ns.getD 8 0⟩
noncomputable def int64Of : MV → Option Int
  | .int .i64 n => some n
  | _ => none
noncomputable def int64s (l : List MV) : Option (List Int) :=
  List.rec (some []) (fun v _ ih => match int64Of v, ih with | some a, some x => some (a :: x) | _, _ => none) l
noncomputable def readE (e : ME) : Option PolE :=
  match e.key, e.val with
  | .str k, .agg (.str n :: l) => match int64s l with
    | some x => cond (and (eqNs k n) (Nat.beq (llen x 0) 9)) (some ⟨n, x⟩) none
    | none => none
  | _, _ => none
noncomputable def readEs (l : List ME) : Option (List PolE) :=
  List.rec (some []) (fun e _ ih => match readE e, ih with | some a, some x => some (a :: x) | _, _ => none) l
noncomputable def insE (e : PolE) (l : List PolE) : List PolE :=
  List.rec [e] (fun d l ih => cond (bless e.name d.name) (e :: d :: l) (d :: ih)) l
noncomputable def sortE (l : List PolE) : List PolE := List.rec [] (fun e _ ih => insE e ih) l
noncomputable def allBelow (n : List Nat) (l : List PolE) : Bool := List.rec true (fun d _ ih => and (bless n d.name) ih) l
noncomputable def strictE (l : List PolE) : Bool := List.rec true (fun e l ih => and (allBelow e.name l) ih) l
noncomputable def noBorn (n : Nat) (l : List ME) : Bool := List.rec true (fun d _ ih => and (not (Nat.beq n d.born)) ih) l
noncomputable def bornOk (clock : Nat) (l : List ME) : Bool := List.rec true (fun e l ih => and (and (Nat.blt e.born clock) (noBorn e.born l)) ih) l
noncomputable def flatE (l : List PolE) : List MV := List.rec [] (fun e _ ih => e.cells ++ ih) l
noncomputable def orcPolicies (f ty : Nat) : Orc := fun g args h =>
  cond (Nat.beq g f) (match args with
    | [.ptr t 0] => match h.get t with
      | some (.cells cs _ _ _) => match lget cs 4 with
        | some (.mp m) => match h.get m with
          | some (.map es clock) => match readEs es with
            | some ps => cond (and (and (bornOk clock es) (strictE (sortE ps))) (and (Nat.ble 1 (llen ps 0)) (Nat.ble (llen ps 0) 12)))
                (some (.slo h.nx 0 0 (llen (sortE ps) 0), h.new (.cells (flatE (sortE ps)) ty 10 false))) none
            | none => none
          | _ => none
        | _ => none
      | _ => none
    | _ => none) none
/- What they are, in plain terms. -/
theorem int64s_ok : ∀ (l : List MV) (x : List Int), int64s l = some x → l = x.map (.int .i64)
  | [], x, h => by cases h; rfl
  | v :: l, x, h => by
    have e : int64s (v :: l) = match int64Of v, int64s l with | some a, some x => some (a :: x) | _, _ => none := rfl
    rw [e] at h
    split at h
    · rename_i a y h1 h2
      cases h
      rw [int64s_ok l y h2]
      unfold int64Of at h1
      split at h1
      · cases h1; rfl
      · cases h1
    · cases h
theorem readE_ok {e : ME} {p : PolE} (h : readE e = some p) : e.key = .str p.name ∧ e.val = .agg p.cells ∧ p.ns.length = 9 := by
  unfold readE at h
  split at h
  · rename_i k n l hk hv
    split at h
    · rename_i x hx
      cases hq : and (eqNs k n) (Nat.beq (llen x 0) 9) with
      | false => rw [hq] at h; cases h
      | true =>
        rw [hq] at h; cases h
        obtain ⟨q1, q2⟩ := and2 hq
        have q2 := Nat.eq_of_beq_eq_true q2
        rw [llen_eq, Nat.add_zero] at q2
        exact ⟨by rw [hk, eqNs_eq _ _ q1], by rw [hv, int64s_ok _ _ hx], q2⟩
    · cases h
  · cases h
theorem readEs_ok : ∀ (l : List ME) (ps : List PolE), readEs l = some ps → l.map (fun e => (e.key, e.val)) = ps.map (fun p => (MV.str p.name, MV.agg p.cells)) ∧ ∀ p ∈ ps, p.ns.length = 9
  | [], ps, h => by cases h; exact ⟨rfl, fun p hp => by cases hp⟩
  | e :: l, ps, h => by
    have e1 : readEs (e :: l) = match readE e, readEs l with | some a, some x => some (a :: x) | _, _ => none := rfl
    rw [e1] at h
    split at h
    · rename_i a y h1 h2
      cases h
      obtain ⟨i1, i2⟩ := readEs_ok l y h2
      obtain ⟨j1, j2, j3⟩ := readE_ok h1
      exact ⟨by simp only [List.map_cons, i1, j1, j2], fun p hp => (List.mem_cons.1 hp).elim (fun e => e ▸ j3) (i2 p)⟩
    · cases h
theorem insE_perm (e : PolE) : ∀ l, (insE e l).Perm (e :: l)
  | [] => List.Perm.refl _
  | d :: l => by
    have e1 : insE e (d :: l) = cond (bless e.name d.name) (e :: d :: l) (d :: insE e l) := rfl
    rw [e1]
    cases bless e.name d.name
    · exact ((insE_perm e l).cons d).trans (List.Perm.swap e d l)
    · exact List.Perm.refl _
theorem sortE_perm : ∀ l, (sortE l).Perm l
  | [] => List.Perm.refl _
  | e :: l => (insE_perm e (sortE l)).trans ((sortE_perm l).cons e)
theorem allBelow_ok (n : List Nat) : ∀ l, allBelow n l = true → ∀ d ∈ l, bless n d.name = true
  | [], _, d, hd => by cases hd
  | e :: l, h, d, hd => by
    obtain ⟨h1, h2⟩ := and2 h
    rcases List.mem_cons.1 hd with rfl | hd
    · exact h1
    · exact allBelow_ok n l h2 d hd
theorem strictE_ok : ∀ l, strictE l = true → l.Pairwise fun a b => bless a.name b.name = true
  | [], _ => List.Pairwise.nil
  | e :: l, h => by
    obtain ⟨h1, h2⟩ := and2 h
    exact List.pairwise_cons.2 ⟨allBelow_ok _ l h1, strictE_ok l h2⟩
theorem noBorn_ok (n : Nat) : ∀ l, noBorn n l = true → ∀ d ∈ l, n ≠ d.born
  | [], _, d, hd => by cases hd
  | e :: l, h, d, hd => by
    obtain ⟨h1, h2⟩ := and2 h
    rcases List.mem_cons.1 hd with rfl | hd
    · intro k; rw [k, Nat.beq_refl] at h1; cases h1
    · exact noBorn_ok n l h2 d hd
theorem bornOk_ok (c : Nat) : ∀ l, bornOk c l = true → (∀ e ∈ l, e.born < c) ∧ (l.map (·.born)).Nodup
  | [], _ => ⟨fun e he => (nomatch he), List.Pairwise.nil⟩
  | e :: l, h => by
    obtain ⟨h1, h2⟩ := and2 h
    obtain ⟨h1, h3⟩ := and2 h1
    obtain ⟨i1, i2⟩ := bornOk_ok c l h2
    refine ⟨fun d hd => ?_, ?_⟩
    · rcases List.mem_cons.1 hd with rfl | hd
      · exact Nat.le_of_ble_eq_true h1
      · exact i1 d hd
    · rw [List.map_cons, List.nodup_cons]
      refine ⟨fun hm => ?_, i2⟩
      obtain ⟨d, hd, he⟩ := List.mem_map.1 hm
      exact noBorn_ok _ l h3 d hd he.symm
theorem flatE_get : ∀ (l : List PolE), (∀ p ∈ l, p.ns.length = 9) → (flatE l).length = l.length * 10 ∧ ∀ (k j : Nat) (p : PolE), l[k]? = some p → j < 10 → (flatE l)[k * 10 + j]? = p.cells[j]?
  | [], _ => ⟨rfl, fun k j p h => by simp at h⟩
  | e :: l, hl => by
    obtain ⟨i1, i2⟩ := flatE_get l fun p hp => hl p (List.mem_cons_of_mem _ hp)
    have e1 : flatE (e :: l) = e.cells ++ flatE l := rfl
    have hc : e.cells.length = 10 := by simp [hl e List.mem_cons_self]
    refine ⟨by rw [e1, List.length_append, hc, i1, List.length_cons]; omega, fun k j p h hj => ?_⟩
    rw [e1]
    cases k with
    | zero =>
      obtain rfl : e = p := by simpa using h
      rw [List.getElem?_append_left (by omega)]; simp
    | succ k =>
      have h : l[k]? = some p := by simpa using h
      rw [List.getElem?_append_right (by omega), hc, show (k + 1) * 10 + j - 10 = k * 10 + j by omega]
      exact i2 k j p h hj
theorem flatE_mem : ∀ (l : List PolE) (v : MV), v ∈ flatE l → (∃ p ∈ l, v = .str p.name) ∨ ∃ n, v = .int .i64 n
  | [], v, h => by cases h
  | e :: l, v, h => by
    have e1 : flatE (e :: l) = e.cells ++ flatE l := rfl
    rw [e1, List.mem_append] at h
    rcases h with h | h
    · rcases List.mem_cons.1 h with rfl | h
      · exact .inl ⟨e, List.mem_cons_self, rfl⟩
      · obtain ⟨n, -, rfl⟩ := List.mem_map.1 h
        exact .inr ⟨n, rfl⟩
    · rcases flatE_mem l v h with ⟨p, hp, rfl⟩ | h
      · exact .inl ⟨p, List.mem_cons_of_mem _ hp, rfl⟩
      · exact .inr h
theorem cmpT_bytes {a b : List Nat} (ha : ∀ x ∈ a, x < 256) (hb : ∀ x ∈ b, x < 256) (h : bless a b = true) : Go.WW.cmpT (bytesV a) (bytesV b) < 0 := by
  unfold Go.WW.cmpT
  rw [bytesV_list, bytesV_list, ← bless_eq a b ha hb, h, if_pos rfl]
  decide
theorem polC_pol {p : PolE} (hn : p.ns.length = 9) (O : Opq) (σ : Sg) : (polC p.pol).toList = embs σ p.cells := by
  obtain ⟨n, ns⟩ := p
  match ns, hn with
  | [a1, a2, a3, a4, a5, a6, a7, a8, a9], _ => rfl
theorem mapRep_pol [O : Opq] {σ : Sg} {es : List ME} {clock : Nat} {ps : List PolE} (hr : readEs es = some ps) (hb : bornOk clock es = true) (hk : ((ps.map PolE.pol).map nameP).Nodup) : MapRep ⟨es.map (embE σ)⟩ clock (polM (ps.map PolE.pol)) := by
  obtain ⟨h1, h2⟩ := readEs_ok _ _ hr
  obtain ⟨b1, b2⟩ := bornOk_ok _ _ hb
  refine ⟨?_, by simpa [polM, Function.comp_def] using hk, fun e he => ?_, ?_⟩
  · have h3 : (es.map (fun e => (e.key, e.val))).map (fun x => (emb σ x.1, emb σ x.2)) = (ps.map (fun p => (MV.str p.name, MV.agg p.cells))).map (fun x => (emb σ x.1, emb σ x.2)) := by rw [h1]
    rw [List.map_map, List.map_map] at h3
    show (es.map (embE σ)).map (fun e => (e.key, e.val)) = _
    rw [List.map_map]
    refine Eq.trans ?_ (h3.trans ?_)
    · rfl
    · simp only [polM, List.map_map]
      refine List.map_congr_left fun p hp => ?_
      show (Value.string (bytesV p.name), Value.agg ⟨embs σ p.cells⟩) = (Value.string (bytesV p.name), Value.agg (polC p.pol))
      rw [← polC_pol (h2 p hp) O σ]
  · obtain ⟨d, hd, rfl⟩ := List.mem_map.1 he
    exact b1 d hd
  · show ((es.map (embE σ)).map (·.born)).Nodup
    rw [List.map_map]; exact b2
end Go.MiniT
namespace Go.Proofs.YtidadlcknkeodaaGreatDoor
open Go Go.Mini Go.MiniT Go.RowKit Go.WW
theorem orcPolicies_ok [O : Opq] {G : GB} {B : Nat → Prop} {W0 : World} (hW : ∀ k, B k → k < W0.heap.size) : OrcIs G Tryz.prog B W0 (orcPolicies 70 34) := by
  intro g args h v h' ho σ V w R hw
  unfold orcPolicies at ho
  cases hg : Nat.beq g 70 with
  | false => rw [hg] at ho; cases ho
  | true =>
    rw [hg] at ho
    obtain rfl := Nat.eq_of_beq_eq_true hg
    simp only [cond_true] at ho
    split at ho
    · rename_i t
      split at ho
      · rename_i cs t1 es1 o1 ht
        split at ho
        · rename_i m hm
          split at ho
          · rename_i es clock hmap
            split at ho
            · rename_i ps hps
              cases hq : and (and (bornOk clock es) (strictE (sortE ps))) (and (Nat.ble 1 (llen ps 0)) (Nat.ble (llen ps 0) 12)) with
              | false => rw [hq] at ho; cases ho
              | true =>
                rw [hq] at ho
                simp only [cond_true] at ho
                cases ho
                obtain ⟨q1, q2⟩ := and2 hq
                obtain ⟨q1, q3⟩ := and2 q1
                obtain ⟨q4, q5⟩ := and2 q2
                have q4 := Nat.le_of_ble_eq_true q4
                have q5 := Nat.le_of_ble_eq_true q5
                rw [llen_eq, Nat.add_zero] at q4 q5
                simp only [wfs, wf] at hw
                obtain ⟨c, fz, k1, k2, k3, k4, -, -⟩ := R.blk t _ hw.1 ht
                rw [lget_eq] at hm
                have hvm : V m := by
                  have := (wfs_iff _).1 k2 _ (List.mem_of_getElem? hm)
                  simpa only [wf] using this
                obtain ⟨kk1, kk2⟩ := R.blk m _ hvm hmap
                obtain ⟨h1, h2⟩ := readEs_ok _ _ hps
                have hn : ∀ p ∈ ps, ∀ b ∈ p.name, b < 256 := fun p hp => by
                  have : (MV.str p.name, MV.agg p.cells) ∈ es.map (fun e => (e.key, e.val)) := by rw [h1]; exact List.mem_map.2 ⟨p, hp, rfl⟩
                  obtain ⟨e, he, hee⟩ := List.mem_map.1 this
                  have hw := (kk2 e he).1
                  have hek : e.key = .str p.name := congrArg Prod.fst hee
                  rw [hek] at hw
                  simpa only [wf] using hw
                have hp0 : ((sortE ps).map PolE.pol).Perm (ps.map PolE.pol) := (sortE_perm ps).map _
                have hss : Sorted Go.WW.cmpT nameP ((sortE ps).map PolE.pol) := by
                  refine List.pairwise_map.2 ?_
                  refine (strictE_ok _ q3).imp_of_mem fun {a b} ha hb hab => ?_
                  exact cmpT_bytes (hn a ((sortE_perm ps).mem_iff.1 ha)) (hn b ((sortE_perm ps).mem_iff.1 hb)) hab
                have hD : ((ps.map PolE.pol).map nameP).Nodup := by
                  refine (hp0.map nameP).nodup_iff.1 ?_
                  refine List.pairwise_map.2 (hss.imp fun {a b} hab e => ?_)
                  rw [(cmpT_total.zero _ _).2 e] at hab
                  exact absurd hab (by decide)
                have hcell : w.cell? ⟨(σ t).blk, (σ t).off + 0 + 4, none⟩ = some (.map (some (σ m).blk)) := by
                  have := k4 4 _ hm
                  simp only [emb] at this
                  simp [World.cell?, k1, this]
                have HC := policyList_c (σ t).blk ((σ t).off + 0) (σ m).blk (ps.map PolE.pol) w hcell ⟨_, _, kk1, mapRep_pol hps q1 hD⟩ (by simpa using q5) hD
                refine HC.mono ?_
                rintro e w' ⟨s, Y, rfl, hb, hp, hs, hdep, hty⟩
                obtain rfl : Y = (sortE ps).map PolE.pol := sorted_eq nameP cmpT_total _ _ hs hss (hp.trans hp0.symm)
                have hlen : ((sortE ps).map PolE.pol).length = ps.length := by rw [List.length_map]; exact (sortE_perm ps).length_eq
                obtain ⟨hcap, g, hsa, hgw, cc, hcc⟩ := hty (by omega)
                have hrows := hdep.out
                obtain ⟨sa, sc⟩ := s
                simp only at hsa hcap hrows
                subst hsa
                have hns : ∀ p ∈ sortE ps, p.ns.length = 9 := fun p hp => h2 p ((sortE_perm ps).mem_iff.1 hp)
                obtain ⟨f1, f2⟩ := flatE_get _ hns
                have R1 := R.grown hW hb
                have hblk : Blk (upd σ h.nx ⟨g, 0, sc⟩) (addV V h.nx) h.nx w' (.cells (flatE (sortE ps)) 34 10 false) := by
                  refine ⟨cc, _, by rw [upd_same]; exact hcc, (wfs_iff _).2 fun v hv => ?_, (ones_iff _).2 fun v hv => ?_, fun i v hv => ?_, fun hf => (nomatch hf), .inl rfl⟩
                  · rcases flatE_mem _ _ hv with ⟨p, hp, rfl⟩ | ⟨n, rfl⟩
                    · simp only [wf]; exact hn p ((sortE_perm ps).mem_iff.1 hp)
                    · simp only [wf]
                  · rcases flatE_mem _ _ hv with ⟨p, hp, rfl⟩ | ⟨n, rfl⟩ <;> rfl
                  · have hi := (List.getElem?_eq_some_iff.1 hv).1
                    rw [f1] at hi
                    have hk : i / 10 < (sortE ps).length := by omega
                    have hij : i / 10 * 10 + i % 10 = i := by omega
                    have hg := f2 (i / 10) (i % 10) _ (List.getElem?_eq_getElem hk) (by omega)
                    rw [hij, hv] at hg
                    have hrow := RowsP.at hrows (i / 10) (by simpa using hk)
                    have hce := row?_cell hrow (i % 10) (by omega)
                    rw [show 0 + i / 10 * 10 + i % 10 = i by omega, List.getElem_map, ← Array.getElem?_toList, polC_pol (hns _ (List.getElem_mem hk)) O (upd σ h.nx ⟨g, 0, sc⟩), embs_map, List.getElem?_map, ← hg] at hce
                    rw [upd_same, Nat.zero_add]
                    simpa [World.cell?, hcc] using hce
                have hfr : ∀ id b, V id → h.get id = some b → live b = true → (σ id).blk ≠ g := fun id b hv hgb hl e => by
                  have := R.lt hv hgb hl
                  omega
                have hBq : ¬ B g := fun hB => by
                  have := R.size hW _ hB
                  omega
                have ha : Agr V σ (upd σ h.nx ⟨g, 0, sc⟩) := agr_upd σ _ (fun hv => Nat.lt_irrefl _ (R.vx _ hv))
                refine ⟨upd σ h.nx ⟨g, 0, sc⟩, addV V h.nx, ha, fun _ hx => .inl hx, fun k hk => ?_, Nat.le_succ _, R1.adopt ⟨g, 0, sc⟩ hBq hfr hblk, ?_, ?_⟩
                · rcases hk with hk | rfl
                  · exact .inl hk
                  · exact .inr (Nat.le_refl _)
                · simp only [wf, upd_same, llen_eq, Nat.zero_add, Nat.add_zero]
                  refine ⟨.inr rfl, ?_⟩
                  rw [List.length_map] at hcap; exact hcap
                · simp only [emb, upd_same, llen_eq, Nat.add_zero, Nat.sub_zero, List.length_map]
            · cases ho
          · cases ho
        · cases ho
      · cases ho
    · cases ho
end Go.Proofs.YtidadlcknkeodaaGreatDoor
