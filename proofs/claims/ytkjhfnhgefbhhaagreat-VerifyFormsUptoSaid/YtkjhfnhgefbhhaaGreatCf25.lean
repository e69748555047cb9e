/- What verify.Form says is what the document says; the law similelaw27.VerifyForms. ALLOC -/
import Derived.Test.YtkjhfnhgefbhhaaGreatCf24
import Derived.Test.YtkjhfnhgefbhhaaGreatCf23
set_option linter.all false
set_option maxRecDepth 20000
set_option maxHeartbeats 6400000
namespace Go.Proofs.YtkjhfnhgefbhhaaGreat
open Go.RowKit Go.Ev Go.Vl
theorem qB2 (m:MM) (a b:Nat):(wLH m).2 a b=entQ (wT m) a b:=ent_rats m a b
theorem blks_same {ps:List (List QQ)} (h:∀ p∈ps,(qY p).2.length=(kV p).2.length∧wT (qY p)=wT (kV p)) (a b:Nat):dsA 0 (zT (ps.map qY)) a b=dsA 0 (zT (ps.map kV)) a b:=by
 refine dsEq.eq 0 ?_ a b
 unfold zT; rw [mT,mT]
 refine dsEq.maps fun p hp=>⟨(h p hp).1,fun a b _ _=>?_⟩
 show (wLH (qY p)).2 a b=(wLH (kV p)).2 a b
 rw [qB2,qB2,(h p hp).2]
theorem sum_eq {ps:List (List QQ)} {f:MM} {n K:Nat} (hn:0<n) (hn':n≤24) (h:monO 1048576 ps) (hN:dsN (z8 ps)=n) (hf:sqM f n K):vB (j8 n (ps.map qY)) f=vE f (sumQ n ps):=by
 obtain ⟨a1,a2⟩:=wX7 (K:=1048576) (by decide) h (by omega)
 have hS:=wX6 (by decide) a1 (a2.trans hN) hn'
 have h25:=wNE h (by omega)
 have e:∀ a b,dsA 0 (zT (ps.map qY)) a b=dsA 0 (zT (ps.map kV)) a b:=blks_same fun p hp=>by
  have s1:=wQI (by decide) (h p hp).1 (h25 p hp)
  have s2:=qI6 (by decide) (h p hp).1 (h25 p hp)
  have h2:=(h p hp).2.1; refine ⟨s1.rows.trans s2.rows.symm,?_⟩
  unfold qY kV; rw [rats_fromM _ (by omega),vO _ (qDB _ _)]
 have e2:gQ n (dsA 0 (zT (ps.map qY)))=gQ n (dsA 0 (zT (ps.map kV))):=by
  unfold gQ; exact mE fun a _=>mE fun b _=>by rw [e]
 rw [wKH hS.den hf.den,wI2,qG5 (fun m hm=>(a1 m hm).1) hn]
 unfold sumQ; rw [vO _ (qDB _ _),e2]
 exact decide_eq_decide.2 ⟨Eq.symm,Eq.symm⟩
theorem frmC_eq {n:Nat} {m f t i:MM} {ps:List (List QQ)} (hn:0<n) (hn':n≤24) (hm:sqM m n 1073741824) (hf:okM f 1073741824) (ht:okM t 1073741824) (hi:okM i 1073741824) (hp:∀ p∈ps,polW 1048576 p):wAE (frmC n m ps f t i)=formR n m ps f t i:=by
 have e:wAE (frmC n m ps f t i)=if (vY ps && sizedB n [f,t,i])=true then (if yA n 0 none (qX ps)=true then (if vB (j8 n (ps.map qY)) f=true then (if vB (yV t i) (idM n)=true then (if vB (yV (yV i m) t) f=true then 0 else 5) else 4) else 3) else 2) else 1:=rfl
 have e2:(vY ps && sizedB n [f,t,i])=true↔sqB n f=true∧sqB n t=true∧sqB n i=true∧vY ps=true:=by
  unfold sizedB sqB; simp only [List.all_cons,List.all_nil,Bool.and_true,Bool.and_eq_true]
  constructor
  ·rintro ⟨h1,h2,h3,h4⟩
   exact ⟨h2,h3,h4,h1⟩
  ·rintro ⟨h2,h3,h4,h1⟩
   exact ⟨h1,h2,h3,h4⟩
 rw [e]; unfold formR
 by_cases h:sqB n f=true∧sqB n t=true∧sqB n i=true∧vY ps=true
 ·rw [if_pos (e2.2 h),if_pos h]
  have s1:=wPB h.1 hf; have s2:=wPB h.2.1 ht
  have s3:=wPB h.2.2.1 hi; have hpo:=wMJ hp (by decide) h.2.2.2
  rw [wUI n (qX ps) 0 none,sim_two hn hn' s2 s3,sim_three hn hn' hm s1 s2 s3]
  by_cases b5:(yH n 0 (qX ps) && vX (qX ps))=true
  ·rw [if_pos b5,if_pos b5]
   obtain ⟨hmon,hN⟩:=wQG hpo (fR.1 b5).1; rw [sum_eq hn hn' hmon hN s1]
  ·rw [if_neg b5,if_neg b5]
 ·rw [if_neg fun hh=>h (e2.1 hh),if_neg h]
theorem wXJ (hlv:wD Tryz.prog 8 [] (fun y=>y=.bool true)) (xa xf xt xi:Bool) (la lf lt li:List Nat) (ta tf tt ti:List (List ZZ)) (ps:List (List QQ)) (ha:okM ((xa,la),ta) 1073741824) (hf:okM ((xf,lf),tf) 1073741824) (ht:okM ((xt,lt),tt) 1073741824) (hi:okM ((xi,li),ti) 1073741824) (hp:∀ p∈ps,polW 1048576 p) (hl:ps.length≤1048576) :
  wD Tryz.prog 4 [.agg [.bool xa,vL la,vT ta],.agg [vPs ps,.bool xf,vL lf,vT tf,.bool xt,vL lt,vT tt,.bool xi,vL li,vT ti]] (fun y=>y=.bool true):=by
 refine wC wG Tryz.func4 rfl rfl rfl rfl fun w0=>?_
 have q1:=vform_v xa xf xt xi la lf lt li ta tf tt ti ps ha hf ht hi hp hl; have q2:=fit11_v xa la ta (zS ha (by decide))
 by_cases h:wL9 ((xa,la),ta)=0
 ·obtain ⟨s1,s2,s3⟩:=fit_sq ha h
  dsimp only at s1 s2 s3; rw [if_pos h,h,frmC_eq s2 s3 s1 hf ht hi hp] at q1
  rw [h] at q2; have q3:=form27_v ta.length s2 s3 xa xf xt xi la lf lt li ta tf tt ti ps s1 hf ht hi hp hl
  generalize formR ta.length ((xa,la),ta) ps ((xf,lf),tf) ((xt,lt),tt) ((xi,li),ti)=c at *; clear ha hf ht hi hp s1
  repeat (first | refine wv ?_ | refine wg rfl cT ?_ | refine wg rfl nF ?_ | refine wc q1 ?_ | refine wc q2 ?_ | refine wc q3 ?_ | refine wc hlv ?_ | refine wz ?_)
  exact ⟨.inl rfl,_,rfl,rfl⟩
 ·rw [if_neg h] at q1
  generalize wL9 ((xa,la),ta)=c at *; clear ha hf ht hi hp
  repeat (first | refine wv ?_ | refine wg rfl cT ?_ | refine wg rfl nT ?_ | refine wc q1 ?_ | refine wc q2 ?_ | refine wc hlv ?_ | refine wz ?_)
  exact ⟨.inl rfl,_,rfl,rfl⟩
end Go.Proofs.YtkjhfnhgefbhhaaGreat
